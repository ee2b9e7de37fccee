/- node.Take in one word. Bound to this program. -/
import Derived.Test.YtfgeffmlfbeodaaNodeTakeN
namespace Go.Proofs.Ytfgeffmlfbeodaa.PNodeBack
open Go Go.RowKit Go.Proofs Go.Proofs.Ytfgeffmlfbeodaa.Rn Go.Proofs.YtfgeffmlfbeodaaW.PrintWords Go.Proofs.YtfgeffmlfbeodaaW.PrintLast Go.Proofs.YtfgeffmlfbeodaaW.PrintMore
set_option linter.unusedVariables false
/-- What node.Take makes of bytes. -/
def Took (k : Nat) (l0 : List Int) (ok lf : Bool) (I : List S87) (K : List (List Int)) (T : List S90) : Prop :=
  ∃ (kind cnt : Int) (x1 : List Int) (s1 : Bool) (x2 : List Int) (s2 : Bool) (xs : List Int) (s : Bool),
    numu (txt l0 false 1).1 = kind ∧ (txt l0 false 1).2 = (x1, s1) ∧ wrap64 (numu (txt x1 s1 1).1) = cnt ∧ (txt x1 s1 1).2 = (x2, s2) ∧ (0 ≤ cnt ∧ cnt ≤ 255) ∧ (∀ c ∈ l0, 0 ≤ c ∧ c ≤ 255) ∧ (kind == 76) = lf ∧
    ((lf = true ∧ K = [] ∧ T = [] ∧ tkL cnt.toNat x2 s2 [] = (xs, s, I)) ∨ (lf = false ∧ I = [] ∧ tkN cnt.toNat x2 s2 [] [] = (xs, s, K, T))) ∧
    ((s = true ∧ ok = false) ∨ (s = false ∧ ∃ q, node_May.f k lf I K T = some q ∧ ((q = false ∧ ok = false) ∨ (q = true ∧ ∃ b, node_Put.f k lf I K T = some b ∧ bytes_Equal.f b l0 = some ok))))
theorem node_Take.any (k : Nat) (A0 : Option Addr) (c0 : Nat) (l0 : List Int) (w : World) (hr0 : Kd.C (Kd.int .u8) w A0 l0.length l0) (hc0 : l0.length ≤ c0) (ok lf : Bool) (I : List S87) (K : List (List Int)) (T : List S90) (h : Took k l0 ok lf I K T) :
    Calls Try.prog 72 #[.slice A0 l0.length c0] w fun e w' => ∃ v1 v2 v3 : Value, e = .returned (.tuple (if ok = true then #[.agg #[.bool lf, v1, v2, v3], .int .i64 0] else #[.agg #[.bool false, .slice none 0 0, .slice none 0 0, .slice none 0 0], .int .i64 2])) ∧ (ok = true → Kd.R k87 87 w' w.heap.size (fun _ => True) v1 I ∧ Kd.R (Kd.slice 5 (Kd.int .u8)) 22 w' w.heap.size (fun _ => True) v2 K ∧ Kd.R k90 90 w' w.heap.size (fun _ => True) v3 T) ∧ Below w.heap.size w w' := by
  obtain ⟨kind, cnt, x1, s1, x2, s2, xs, s, h1, h2, h3, h4, h5, h6, h7, h8, h9⟩ := h
  rcases h8 with ⟨rfl, rfl, rfl, h8⟩ | ⟨rfl, rfl, h8⟩
  · exact node_Take.leaf k A0 c0 l0 w hr0 hc0 kind cnt x1 s1 x2 s2 h1 h2 h3 h4 h5 h7 xs s I h8 h6 ok h9
  · exact node_Take.inner k A0 c0 l0 w hr0 hc0 kind cnt x1 s1 x2 s2 h1 h2 h3 h4 h5 h7 xs s K T h8 h6 ok h9
/-- The bytes are a node. -/
theorem node_Take.yes (k : Nat) (A0 : Option Addr) (c0 : Nat) (l0 : List Int) (w : World) (hr0 : Kd.C (Kd.int .u8) w A0 l0.length l0) (hc0 : l0.length ≤ c0) (lf : Bool) (I : List S87) (K : List (List Int)) (T : List S90) (h : Took k l0 true lf I K T) :
    Calls Try.prog 72 #[.slice A0 l0.length c0] w fun e w' => ∃ D1 d1 D2 d2 D3 d3, e = .returned (.tuple #[.agg #[.bool lf, .slice D1 I.length d1, .slice D2 K.length d2, .slice D3 T.length d3], .int .i64 0]) ∧ (Kd.C k87 w' D1 I.length I ∧ I.length ≤ d1 ∧ Kd.C (Kd.slice 5 (Kd.int .u8)) w' D2 K.length K ∧ K.length ≤ d2 ∧ Kd.C k90 w' D3 T.length T ∧ T.length ≤ d3) ∧ Below w.heap.size w w' := by
  refine (node_Take.any k A0 c0 l0 w hr0 hc0 true lf I K T h).mono ?_
  rintro e w' ⟨v1, v2, v3, he, hR, hb⟩
  obtain ⟨h1, h2, h3⟩ := hR rfl
  obtain ⟨D1, d1, e1, p1, q1⟩ := Kd.R_reads h1
  obtain ⟨D2, d2, e2, p2, q2⟩ := Kd.R_reads h2
  obtain ⟨D3, d3, e3, p3, q3⟩ := Kd.R_reads h3
  exact ⟨D1, d1, D2, d2, D3, d3, by rw [he, e1, e2, e3]; rfl, ⟨q1, p1, q2, p2, q3, p3⟩, hb⟩
/-- They are none. -/
theorem node_Take.no (k : Nat) (A0 : Option Addr) (c0 : Nat) (l0 : List Int) (w : World) (hr0 : Kd.C (Kd.int .u8) w A0 l0.length l0) (hc0 : l0.length ≤ c0) (h : ∃ lf I K T, Took k l0 false lf I K T) :
    Calls Try.prog 72 #[.slice A0 l0.length c0] w fun e w' => e = .returned (.tuple #[.agg #[.bool false, .slice none 0 0, .slice none 0 0, .slice none 0 0], .int .i64 2]) ∧ Below w.heap.size w w' := by
  obtain ⟨lf, I, K, T, h⟩ := h
  refine (node_Take.any k A0 c0 l0 w hr0 hc0 false lf I K T h).mono ?_
  rintro e w' ⟨v1, v2, v3, he, _, hb⟩
  exact ⟨by rw [he]; rfl, hb⟩
end Go.Proofs.Ytfgeffmlfbeodaa.PNodeBack
