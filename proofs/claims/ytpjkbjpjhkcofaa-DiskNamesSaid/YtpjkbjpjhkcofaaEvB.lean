/- EV, part B: the evaluator: code run in the text's order over an abstract heap. No program here. -/
import Derived.Test.YtpjkbjpjhkcofaaEvA
import Derived.Tactics2
import Derived.Laws.MakeOwn
import Derived.Orders
namespace Go.Proofs.Ytpjkbjpjhkcofaa.Ev
open Go
set_option linter.unusedVariables false
set_option linter.unusedSimpArgs false
/-- A tree over numbers. -/
inductive Tr (α : Type) where
  | leaf
  | node (v : Option α) (l r : Tr α)
/-- A case on a bool, by its bare recursor: cheap for the kernel. -/
noncomputable def bif' {α : Sort 1} (b : Bool) (x y : α) : α := Bool.rec (motive := fun _ => α) y x b
theorem bif'_eq {α : Type} (c : Prop) [h : Decidable c] (b : Bool) (hb : b = true ↔ c) (x y : α) : bif' b x y = if c then x else y := by
  unfold bif'
  cases b
  · rw [if_neg (fun hc => by cases hb.2 hc)]
  · rw [if_pos (hb.1 rfl)]
theorem beq_iff (a b : Nat) : Nat.beq a b = true ↔ a = b := ⟨Nat.eq_of_beq_eq_true, fun h => h ▸ Nat.beq_refl a⟩
noncomputable def Tr.get {α : Type} (t : Tr α) : Nat → Option α :=
  Tr.rec (motive := fun _ => Nat → Option α) (fun _ => none) (fun v _ _ gl gr n => bif' (Nat.beq n 0) v (bif' (Nat.beq (Nat.mod n 2) 1) (gl (Nat.div n 2)) (gr (Nat.pred (Nat.div n 2))))) t
noncomputable def Tr.set {α : Type} (f : Nat) : Tr α → Nat → α → Tr α :=
  Nat.rec (motive := fun _ => Tr α → Nat → α → Tr α) (fun t _ _ => t) (fun _ go t n a =>
    Tr.rec (motive := fun _ => Tr α)
      (bif' (Nat.beq n 0) (.node (some a) .leaf .leaf) (bif' (Nat.beq (Nat.mod n 2) 1) (.node none (go .leaf (Nat.div n 2) a) .leaf) (.node none .leaf (go .leaf (Nat.pred (Nat.div n 2)) a))))
      (fun v l r _ _ => bif' (Nat.beq n 0) (.node (some a) l r) (bif' (Nat.beq (Nat.mod n 2) 1) (.node v (go l (Nat.div n 2) a) r) (.node v l (go r (Nat.pred (Nat.div n 2)) a)))) t) f
theorem Tr.get_node {α : Type} (v : Option α) (l r : Tr α) (n : Nat) : (Tr.node v l r).get n = if n = 0 then v else if n % 2 = 1 then l.get (n / 2) else r.get (n / 2 - 1) := by
  rw [← bif'_eq (n % 2 = 1) _ (beq_iff _ _), ← bif'_eq (n = 0) _ (beq_iff _ _)]
  rfl
theorem Tr.get_leaf {α : Type} (n : Nat) : (Tr.leaf : Tr α).get n = none := rfl
theorem Tr.set_node {α : Type} (f : Nat) (v : Option α) (l r : Tr α) (n : Nat) (a : α) : Tr.set (f + 1) (.node v l r) n a = if n = 0 then .node (some a) l r else if n % 2 = 1 then .node v (Tr.set f l (n / 2) a) r else .node v l (Tr.set f r (n / 2 - 1) a) := by
  rw [← bif'_eq (n % 2 = 1) _ (beq_iff _ _), ← bif'_eq (n = 0) _ (beq_iff _ _)]
  rfl
theorem Tr.set_leaf {α : Type} (f n : Nat) (a : α) : Tr.set (f + 1) .leaf n a = Tr.set (f + 1) (.node none .leaf .leaf) n a := rfl
theorem Tr.get_set {α : Type} (a : α) : ∀ (f : Nat) (t : Tr α) (n m : Nat), n < f → (Tr.set f t n a).get m = if m = n then some a else t.get m
  | 0, _, _, _, h => absurd h (Nat.not_lt_zero _)
  | f + 1, t, n, m, h => by
    have key : ∀ (v : Option α) (l r : Tr α), (Tr.set (f + 1) (.node v l r) n a).get m = if m = n then some a else (Tr.node v l r).get m := by
      intro v l r
      rw [Tr.set_node]
      by_cases h0 : n = 0
      · rw [if_pos h0, Tr.get_node, Tr.get_node]
        by_cases hm : m = 0
        · rw [if_pos hm, if_pos (show m = n by omega)]
        · rw [if_neg hm, if_neg (show ¬ m = n by omega), if_neg hm]
      · rw [if_neg h0]
        by_cases h1 : n % 2 = 1
        · rw [if_pos h1, Tr.get_node, Tr.get_node]
          by_cases hm : m = 0
          · rw [if_pos hm, if_neg (by omega), if_pos hm]
          · rw [if_neg hm, if_neg hm]
            by_cases hm1 : m % 2 = 1
            · rw [if_pos hm1, if_pos hm1, Tr.get_set a f l _ _ (by omega)]
              by_cases e : m = n
              · rw [if_pos (by omega), if_pos e]
              · rw [if_neg (by omega), if_neg e]
            · rw [if_neg hm1, if_neg (by omega), if_neg hm1]
        · rw [if_neg h1, Tr.get_node, Tr.get_node]
          by_cases hm : m = 0
          · rw [if_pos hm, if_neg (by omega), if_pos hm]
          · rw [if_neg hm, if_neg hm]
            by_cases hm1 : m % 2 = 1
            · rw [if_pos hm1, if_neg (by omega), if_pos hm1]
            · rw [if_neg hm1, if_neg hm1, Tr.get_set a f r _ _ (by omega)]
              by_cases e : m = n
              · rw [if_pos (by omega), if_pos e]
              · rw [if_neg (by omega), if_neg e]
    cases t with
    | leaf =>
      rw [Tr.set_leaf, key, Tr.get_node, Tr.get_leaf, Tr.get_leaf, Tr.get_leaf]
      simp
    | node v l r => exact key v l r
/-- The abstract heap: names below next are in use. -/
structure AH where
  t : Tr Blk
  next : Nat
noncomputable def AH.get (H : AH) (n : Nat) : Option Blk := H.t.get n
noncomputable def AH.put (H : AH) (n : Nat) (b : Blk) : AH := ⟨Tr.set (n + 1) H.t n b, H.next⟩
noncomputable def AH.new (H : AH) (b : Blk) : AH := ⟨Tr.set (H.next + 1) H.t H.next b, H.next + 1⟩
theorem AH.get_put (H : AH) (n : Nat) (b : Blk) (m : Nat) : (H.put n b).get m = if m = n then some b else H.get m := Tr.get_set b (n + 1) H.t n m (Nat.lt_succ_self _)
theorem AH.get_new (H : AH) (b : Blk) (m : Nat) : (H.new b).get m = if m = H.next then some b else H.get m := Tr.get_set b (H.next + 1) H.t H.next m (Nat.lt_succ_self _)
/-- A name is no more. -/
noncomputable def AH.kill (H : AH) (n : Nat) : AH := match H.get n with
  | some b => H.put n { b with live := false }
  | none => H
noncomputable def AH.killS (H : AH) : Option Nat → AH
  | some n => H.kill n
  | none => H
/-- The live cells of a name. -/
noncomputable def AH.cells (H : AH) (n : Nat) : Option (List Value × Nat × Option Nat) := match H.get n with
  | some ⟨.cells l z, true, s⟩ => some (l, z, s)
  | _ => none
/-- Values without addresses, all through. -/
def clean : Value → Bool
  | .agg cs => cs.toList.all flat
  | .tuple cs => cs.toList.all flat
  | v => flat v
/-- A tree of steps that asks nothing of the world. -/
def semPure {α : Type} (P : Program) : Sem α → Option α
  | .pure a => some a
  | .program k => semPure P (k P)
  | .mark _ k => semPure P k
  | _ => none
/-- A list's value at a place, and with another one there, by bare recursors. -/
noncomputable def lget (l : List Value) : Nat → Value :=
  List.rec (motive := fun _ => Nat → Value) (fun _ => undef) (fun x _ go n => Nat.rec (motive := fun _ => Value) x (fun m _ => go m) n) l
noncomputable def lset (l : List Value) : Nat → Value → List Value :=
  List.rec (motive := fun _ => Nat → Value → List Value) (fun _ _ => []) (fun x r go n v => Nat.rec (motive := fun _ => List Value) (v :: r) (fun m _ => x :: go m v) n) l
theorem lget_eq : ∀ (l : List Value) (n : Nat), lget l n = l.getD n undef
  | [], _ => rfl
  | x :: l, 0 => rfl
  | x :: l, n + 1 => by
    show lget l n = _
    rw [lget_eq l n, List.getD_cons_succ]
theorem lset_eq (v : Value) : ∀ (l : List Value) (n : Nat), lset l n v = l.set n v
  | [], _ => rfl
  | x :: l, 0 => rfl
  | x :: l, n + 1 => by
    show x :: lset l n v = _
    rw [lset_eq v l n, List.set_cons_succ]
noncomputable def aeval (env : List Value) : Operand → Option Value
  | .tmp t => some (lget env t)
  | .const v => if clean v then some v else none
  | .global _ => none
  | .func f => some (.func (.func f) #[] #[])
def asNat (v : Value) : Option Nat := match v with
  | .int _ n => if 0 ≤ n then some n.toNat else none
  | _ => none
def aelem (P : Program) (t : TypeId) : Option TypeId := match P.underlying t with
  | some (.slice e) => some e
  | _ => none
theorem aelem_some {P : Program} {t e : TypeId} (h : aelem P t = some e) : P.underlying t = some (.slice e) := by
  unfold aelem at h
  split at h
  · rename_i e' he; simp only [Option.some.injEq] at h; rw [← h]; exact he
  · cases h
def aspread (P : Program) (t : TypeId) : Option Unit := match P.underlying t with
  | some (.slice _) => some ()
  | some .string => some ()
  | _ => none
theorem aspread_some {P : Program} {t : TypeId} {u : Unit} (h : aspread P t = some u) : (∃ e, P.underlying t = some (.slice e)) ∨ P.underlying t = some .string := by
  unfold aspread at h
  split at h
  · rename_i e' he; exact .inl ⟨e', he⟩
  · rename_i he; exact .inr he
  · cases h
def afields (P : Program) (t : TypeId) : Option (Array Field) := match P.underlying t with
  | some (.struct fs) => some fs
  | _ => none
theorem afields_some {P : Program} {t : TypeId} {fs : Array Field} (h : afields P t = some fs) : P.underlying t = some (.struct fs) := by
  unfold afields at h
  split at h
  · rename_i e' he; simp only [Option.some.injEq] at h; rw [← h]; exact he
  · cases h
noncomputable def aparts (env : List Value) : List (Nat × Operand) → Option (List (Nat × Value))
  | [] => some []
  | (i, x) :: r => do
    let v ← aeval env x
    let vs ← aparts env r
    some ((i, v) :: vs)
abbrev Res := Value × AH × List Nat × List Nat
def szOf (P : Program) (t : TypeId) : Option Nat := (P.info? t).map (·.size)
def aplaces (P : Program) : List Field → Option (List (Nat × Nat))
  | [] => some []
  | f :: r => do
    let n ← szOf P f.type
    let ns ← aplaces P r
    some ((f.offset, n) :: ns)
def zeroOf (P : Program) (t : TypeId) : Option Value := (P.info? t).bind (·.zero)
def isAggB (P : Program) (t : TypeId) : Option Bool := match P.underlying t with
  | some (.struct _) => some true
  | some (.array _ _) => some true
  | some _ => some false
  | none => none
/-- How many cells an element of a row in a new block has. -/
def eszOf (P : Program) (t : TypeId) (n : Nat) : Nat := match P.underlying t with
  | some (.array _ e) => (szOf P e).getD 1
  | _ => n + 1000000
/-- A new block. -/
noncomputable def anew (H : AH) (l : List Value) (z : Nat) : Value × AH := (.pointer (some ⟨H.next, 0, none⟩), H.new ⟨.cells l z, true, none⟩)
noncomputable def aload (P : Program) (H : AH) (t : TypeId) : Value → Option Res
  | .pointer (some ⟨n, i, none⟩) => do
    let (l, _) ← H.cells n
    let sz ← szOf P t
    if ← isAggB P t then
      if i + sz ≤ l.length then some (.agg ⟨(l.drop i).take sz⟩, H, [n], []) else none
    else
      let v ← l[i]?
      some (v, H, [n], [])
  | _ => none
def wr (n : Nat) : Option Nat → List Nat
  | some s => [n, s]
  | none => [n]
noncomputable def astore (P : Program) (H : AH) (t : TypeId) (a v : Value) : Option Res := match a with
  | .pointer (some ⟨n, i, none⟩) => do
    let (l, z, s) ← H.cells n
    let sz ← szOf P t
    let vs := v.cells.toList
    if vs.length = sz ∧ i + vs.length ≤ l.length ∧ vs.all (·.oneCell') = true ∧ s ≠ some n then
      some (undef, (H.killS s).put n ⟨.cells (l.take i ++ vs ++ l.drop (i + vs.length)) z, true, none⟩, [], wr n s)
    else none
  | _ => none
def abytes (l : List Value) : Option (List UInt8) := l.mapM fun
  | .int .u8 n => if 0 ≤ n ∧ n < 256 then some (UInt8.ofNat n.toNat) else none
  | _ => none
/-- The cells of a slice or a string that is handed to append or copy. -/
noncomputable def aitems (H : AH) (sz n : Nat) : Value → Option (List Value × List Nat)
  | .slice none _ _ => some ([], [])
  | .slice (some ⟨b, i, none⟩) _ _ => do
    let (l, _) ← H.cells b
    if i + n * sz ≤ l.length then some ((l.drop i).take (n * sz), [b]) else none
  | .string s => some ((s.extract 0 n).data.toList.map fun b => .int .u8 b.toNat, [])
  | _ => none
def alenOf : Value → Option Nat
  | .slice _ n _ => some n
  | .string s => some s.size
  | _ => none
/-- Zeros that are appended, so many: 'append(s, make([]T, n)...)'. -/
def azeros (P : Program) (u : TypeId) (x : Value) : Option Nat := match P.underlying u, x with
  | some (.int _), .int .i64 m => if 0 ≤ m ∧ m ≤ 2 ^ 20 then some m.toNat else none
  | _, _ => none
/-- What is appended: how many, its cells, what is read. -/
noncomputable def aspring (P : Program) (H : AH) (u : TypeId) (inf : TypeInfo) (zero : Value) (x : Value) : Option (Nat × List Value × List Nat) := match azeros P u x with
  | some m => match zero.cells.toList with
    | [c] => if inf.bytes ≤ 2 ^ 20 ∧ flat c = true then some (m, List.replicate m c, []) else none
    | _ => none
  | none => do
    let _ ← aspread P u
    let n ← alenOf x
    let (items, rd) ← aitems H inf.size n x
    some (n, items, rd)
noncomputable def aappend (P : Program) (H : AH) (ats : Array TypeId) (s x : Value) : Option Res := do
  let t ← ats[0]?
  let u ← ats[1]?
  let elem ← aelem P t
  let inf ← P.info? elem
  let zero ← inf.zero
  let sz := inf.size
  let (n, items, rd) ← aspring P H u inf zero x
  if ats.size = 2 ∧ clean zero ∧ zero.cells.size = sz ∧ items.length = n * sz ∧ items.all (·.oneCell') = true then
    if n = 0 then
      match s with
      | .slice none 0 0 => some (s, H, rd, [])
      | .slice (some _) _ _ => some (s, H, rd, [])
      | _ => none
    else if sz = 0 then none
    else match s with
      | .slice none 0 0 =>
        if (2 * n + 768) * (inf.bytes + 1) ≤ 2 ^ 40 then some (.slice (some ⟨H.next, 0, none⟩) n n, H.new ⟨.cells items sz, true, none⟩, rd, []) else none
      | .slice (some ⟨b, i, none⟩) l _ => do
        let (cs, z, sb) ← H.cells b
        let e := i + l * sz
        if e ≤ cs.length ∧ sb ≠ some b ∧ b ≠ H.next ∧ sb ≠ some H.next ∧ z = sz ∧ z < 1000000 ∧ (2 * (l + n) + 768) * (inf.bytes + 1) ≤ 2 ^ 40 then
          let H1 := (H.killS sb).put b ⟨.cells cs z, decide (cs.length ≤ e), some H.next⟩
          some (.slice (some ⟨H.next, 0, none⟩) (l + n) (l + n), H1.new ⟨.cells ((cs.take e).drop i ++ items) z, true, some b⟩, rd ++ [b], wr b sb)
        else none
      | _ => none
  else none
noncomputable def acopy (P : Program) (H : AH) (ats : Array TypeId) (d x : Value) : Option Res := do
  let t ← ats[0]?
  let elem ← aelem P t
  let sz ← szOf P elem
  let m ← alenOf x
  match d with
  | .slice none l _ => do
    let (_, rd) ← aitems H sz (Nat.min m l) x
    some (.int .i64 (Nat.min m l : Nat), H, rd, [])
  | .slice (some ⟨b, i, none⟩) l _ => do
    let (items, rd) ← aitems H sz (Nat.min m l) x
    let (cs, z, sb) ← H.cells b
    if i + items.length ≤ cs.length ∧ sb ≠ some b ∧ items.all (·.oneCell') = true then
      some (.int .i64 (Nat.min m l : Nat), (H.killS sb).put b ⟨.cells (cs.take i ++ items ++ cs.drop (i + items.length)) z, true, none⟩, rd, wr b sb)
    else none
  | _ => none
def abound (x : Value) (y : Nat) : Option Nat := match x with
  | .int _ i => if 0 ≤ i ∧ i ≤ y then some i.toNat else none
  | _ => none
def aboundO (x : Option Value) (y : Nat) (d : Option Nat) : Option Nat := match x with
  | some v => abound v y
  | none => d
def abounds (len cap : Nat) (lo hi mx : Option Value) : Option (Nat × Nat × Nat) := do
  let m ← aboundO mx cap (some cap)
  let h ← aboundO hi m (if mx.isSome then none else some len)
  let l ← aboundO lo h (some 0)
  some (l, h, m)
noncomputable def optEval (env : List Value) : Option Operand → Option (Option Value)
  | none => some none
  | some x => (aeval env x).map some
/-- What a call is: which function, with which arguments. -/
def acallee (v : Value) (args : List Value) : Option (FuncId × List Value) := match v with
  | .func (.func f) first captured => some (f, first.toList ++ args ++ captured.toList)
  | _ => none
/-- The bytes of a slice or a string. -/
noncomputable def abytesOf (H : AH) : Value → Option (List UInt8 × List Nat)
  | .slice none _ _ => some ([], [])
  | .slice (some ⟨b, i, none⟩) n _ => do
    let (l, _) ← H.cells b
    if i + n ≤ l.length then some (← abytes ((l.drop i).take n), [b]) else none
  | .string s => some (s.data.toList, [])
  | _ => none
noncomputable def acompare (H : AH) : List Value → Option Res
  | [a, b] => do
    let (x, r) ← abytesOf H a
    let (y, q) ← abytesOf H b
    some (.int .i64 (Extern.BytealgCompare.cmp ⟨⟨x⟩⟩ ⟨⟨y⟩⟩), H, r ++ q, [])
  | _ => none
abbrev CallF := FuncId → List Value → AH → Option Res
/-- What is told of letters: results of operations and of conversions. -/
structure TBin where
  op : BinOp
  t : TypeId
  x : Value
  y : Value
  v : Value
structure TConv where
  src : TypeId
  dst : TypeId
  x : Value
  v : Value
def veq : Value → Value → Bool
  | .chan (some i), .chan (some j) => Nat.beq i j
  | .int k n, .int k' m => decide (k = k') && decide (n = m)
  | _, _ => false
def vok : Value → Bool
  | .chan (some _) => true
  | v => flat v
def tellBin : List TBin → BinOp → TypeId → Value → Value → Option Value
  | [], _, _, _, _ => none
  | e :: l, op, t, x, y => if (decide (e.op = op) && (Nat.beq e.t t && (veq e.x x && (veq e.y y && vok e.v)))) = true then some e.v else tellBin l op t x y
def tellConv : List TConv → TypeId → TypeId → Value → Option Value
  | [], _, _, _ => none
  | e :: l, src, dst, x => if (Nat.beq e.src src && (Nat.beq e.dst dst && (veq e.x x && vok e.v))) = true then some e.v else tellConv l src dst x
/-- Functions that are told, not run: the comparison of bytes, slices.Sorted at strings, the iterator of maps.Keys, maps.Clone; and what is told of letters. -/
structure XC where
  cmp : Nat
  sorted : Nat
  keys : Nat
  clone : Nat
  bins : List TBin
  convs : List TConv
/-- What is told, where nothing is reckoned. -/
def orTell (r : Option Res) (t : Option Value) (H : AH) : Option Res := match r with
  | some r => some r
  | none => t.map fun v => (v, H, [], [])
/-- The types of a map: of its elements, of its keys. -/
def amap (P : Program) (t : TypeId) : Option (TypeId × TypeId × TypeDesc) := match P.underlying t with
  | some (.map kt et) => match P.underlying kt with
    | some .string => some (kt, et, .string)
    | some (.pointer te) => if (P.info? te).isSome then some (kt, et, .pointer te) else none
    | _ => none
  | _ => none
def akeyEq : TypeDesc → Value → Value → Option Bool
  | .string, .string a, .string b => some (a.data.toList == b.data.toList)
  | .pointer _, .pointer (some ⟨n, i, none⟩), .pointer (some ⟨m, j, none⟩) => if n = m ∧ i = j then some true else none
  | _, _, _ => none
def aisKey : TypeDesc → Value → Bool
  | .string, .string _ => true
  | .pointer _, .pointer (some ⟨_, _, none⟩) => true
  | _, _ => false
def afind (kd : TypeDesc) (k : Value) : List AEnt → Nat → Option (Option (Nat × Value))
  | [], _ => some none
  | e :: es, i => match akeyEq kd k e.key with
    | some true => some (some (i, e.val))
    | some false => afind kd k es (i + 1)
    | none => none
def aset : List AEnt → Nat → Value → Value → List AEnt
  | [], _, _, _ => []
  | e :: l, 0, k, v => ⟨k, v, e.born⟩ :: l
  | e :: l, i + 1, k, v => e :: aset l i k v
/-- A map's entries. -/
noncomputable def AH.map (H : AH) (n : Nat) : Option (List AEnt × Nat) := match H.get n with
  | some ⟨.map es ck, true, none⟩ => some (es, ck)
  | _ => none
noncomputable def amapUpdate (P : Program) (H : AH) (t : TypeId) (k x : Value) : Value → Option Res
  | .map (some n) => do
    let (_, _, kd) ← amap P t
    let (es, ck) ← H.map n
    if aisKey kd k then
      match ← afind kd k es 0 with
      | some (i, _) => some (undef, H.put n ⟨.map (aset es i k x) ck, true, none⟩, [], [n])
      | none => some (undef, H.put n ⟨.map (es ++ [⟨k, x, ck⟩]) (ck + 1), true, none⟩, [], [n])
    else none
  | _ => none
noncomputable def alookup (P : Program) (H : AH) (t : TypeId) (k : Value) (ok : Bool) (m : Value) : Option Res := do
  let (_, et, kd) ← amap P t
  let z ← zeroOf P et
  let out (v : Value) (b : Bool) : Value := if ok then .tuple #[v, .bool b] else v
  if aisKey kd k ∧ clean z then
    match m with
    | .map none => some (out z false, H, [], [])
    | .map (some n) => do
      let (es, _) ← H.map n
      match ← afind kd k es 0 with
      | some (_, v) => some (out v true, H, [n], [])
      | none => some (out z false, H, [n], [])
    | _ => none
  else none
noncomputable def adelete (P : Program) (H : AH) (t : TypeId) (k : Value) : Value → Option Res
  | .map (some n) => do
    let (_, _, kd) ← amap P t
    let (es, ck) ← H.map n
    if aisKey kd k then
      match ← afind kd k es 0 with
      | some (i, _) => some (undef, H.put n ⟨.map (es.eraseIdx i) ck, true, none⟩, [], [n])
      | none => some (undef, H.put n ⟨.map es ck, true, none⟩, [], [n])
    else none
  | _ => none
noncomputable def arangeMap (H : AH) : Value → Option Res
  | .map (some n) => do
    let (_, ck) ← H.map n
    some (.pointer (some ⟨H.next, 0, none⟩), H.new ⟨.miter n ck [] ck, true, none⟩, [n], [])
  | _ => none
/-- Which entry comes next, if it is told. -/
noncomputable def anextMap (H : AH) : Value → Option Res
  | .pointer (some ⟨n, 0, none⟩) => match H.get n with
    | some ⟨.miter m since seen last, true, none⟩ => do
      let (es, ck) ← H.map m
      if es.all (fun e => Nat.blt e.born since) && Nat.ble since last then
        match es.filter (fun e => !seen.contains e.born) with
        | [] => some (.tuple #[.bool false], H, [n, m], [])
        | [e] => some (.tuple #[.bool true, e.key, e.val], H.put n ⟨.miter m since (seen ++ [e.born]) ck, true, none⟩, [m], [n])
        | _ => none
      else none
    | _ => none
  | _ => none
noncomputable def aentry (H : AH) : Value → Option Res
  | .pointer (some ⟨n, 0, none⟩) => match H.get n with
    | some ⟨.miter m _ seen last, true, none⟩ => do
      let (es, ck) ← H.map m
      let b ← seen.getLast?
      let e ← es.find? (fun e => e.born == b)
      if ck = last then some (.tuple #[e.key, e.val], H, [n, m], []) else none
    | _ => none
  | _ => none
def astr : Value → Option ByteArray
  | .string s => some s
  | _ => none
/-- Strings in order: one by one to its place. -/
def asle : List UInt8 → List UInt8 → Bool
  | [], _ => true
  | _ :: _, [] => false
  | x :: a, y :: b => Nat.blt x.toNat y.toNat || (Nat.beq x.toNat y.toNat && asle a b)
def asins (x : ByteArray) : List ByteArray → List ByteArray
  | [] => [x]
  | y :: l => if asle x.data.toList y.data.toList then x :: y :: l else y :: asins x l
def asort : List ByteArray → List ByteArray
  | [] => []
  | x :: l => asins x (asort l)
def abornAll : List AEnt → Nat → Bool
  | [], _ => true
  | e :: l, ck => Nat.blt e.born ck && (l.all fun f => !Nat.beq f.born e.born) && abornAll l ck
def aapart : List ByteArray → Bool
  | [] => true
  | x :: l => l.all (fun y => !(x.data.toList == y.data.toList)) && aapart l
def ashort : List ByteArray → Bool
  | [] => true
  | x :: l => Nat.ble x.data.toList.length 100000 && ashort l
noncomputable def asorted (xc : XC) (H : AH) : List Value → Option Res
  | [.func (.func g) ⟨[]⟩ ⟨[.pointer (some ⟨b, i, none⟩)]⟩] => do
    let (l, z, _) ← H.cells b
    match l[i]? with
    | some (.map (some m)) => do
      let (es, ck) ← H.map m
      let ks ← es.mapM (fun e => astr e.key)
      if (g = xc.keys ∧ i = 0 ∧ 1000000 ≤ z) ∧ abornAll es ck = true ∧ aapart ks = true ∧ ashort ks = true ∧ es.length ≤ 1000 then
        match asort ks with
        | [] => some (.slice none 0 0, H, [b, m], [])
        | ss => some (.slice (some ⟨H.next, 0, none⟩) ss.length ss.length, H.new ⟨.cells (ss.map .string) 1, true, none⟩, [b, m], [])
      else none
    | _ => none
  | _ => none
noncomputable def aclone (H : AH) : List Value → Option Res
  | [.map none] => some (.map none, H, [], [])
  | [.map (some n)] => do
    let (es, ck) ← H.map n
    some (.map (some H.next), H.new ⟨.map es ck, true, none⟩, [n], [])
  | _ => none
noncomputable def cleanOp (env : List Value) (x : Operand) : Bool := match aeval env x with
  | some v => clean v
  | none => false
def notSel : Op → Bool
  | .select .. => false
  | _ => true
/-- By the model's own steps, where nothing of the world is asked and no address is at hand. -/
noncomputable def agen (P : Program) (env : List Value) (o : Oper) (H : AH) : Option Res :=
  if (notSel o.op && o.op.operands.toList.all (cleanOp env)) = true then
    match semPure P (execOp (fun x => (aeval env x).getD undef) o) with
    | some (.value v) => if clean v then some (v, H, [], []) else none
    | _ => none
  else none
noncomputable def aop (P : Program) (xc : XC) (call : CallF) (env : List Value) (o : Oper) (H : AH) : Option Res :=
  let ok (v : Value) : Option Res := some (v, H, [], [])
  let gen : Option Res := agen P env o H
  match o.op with
  | .move x => do ok (← aeval env x)
  | .assign x => do ok (← aeval env x)
  | .pick c a b => do
    match ← aeval env c with
    | .bool true => ok (← aeval env a)
    | .bool false => ok (← aeval env b)
    | _ => none
  | .extract x i => do
    match ← aeval env x with
    | .tuple vs => ok (← vs.toList[i]?)
    | _ => none
  | .alloc t => do
    let z ← zeroOf P t
    let (v, H') := anew H z.cells.toList (eszOf P t z.cells.size)
    if clean z then some (v, H', [], []) else none
  | .box t x => do
    let v ← aeval env x
    let (p, H') := anew H v.cells.toList (eszOf P t v.cells.size)
    if v.cells.toList.all (·.oneCell') then some (p, H', [], []) else none
  | .build t parts => do
    let z ← zeroOf P t
    let ps ← aparts env parts.toList
    if clean z then
      match P.underlying t with
      | some (.struct fields) => do
        let places ← aplaces P fields.toList
        let cs ← Instr.fill (places.toArray[·]?) z.cells ps
        ok (.agg cs)
      | some (.array _ elem) => do
        let sz ← szOf P elem
        let cs ← Instr.fill (fun i => some (i * sz, sz)) z.cells ps
        ok (.agg cs)
      | _ => none
    else none
  | .buildSlice t len parts => do
    let elem ← aelem P t
    let sz ← szOf P elem
    let z ← zeroOf P elem
    let ps ← aparts env parts.toList
    if clean z ∧ len * sz ≤ 2 ^ 24 ∧ z.cells.size = sz then
      let cs ← Instr.fill (fun i => some (i * sz, sz)) (madeCells z.cells (len * sz)) ps
      if cs.toList.all (·.oneCell') then some (.slice (some ⟨H.next, 0, none⟩) len len, H.new ⟨.cells cs.toList sz, true, none⟩, [], []) else none
    else none
  | .load t a => do aload P H t (← aeval env a)
  | .store t a x => do astore P H t (← aeval env a) (← aeval env x)
  | .nilCheck x => do
    match ← aeval env x with
    | .pointer (some a) => ok (.pointer (some a))
    | .func (.func f) a c => ok (.func (.func f) a c)
    | _ => none
  | .makeFunc (.func f) first captured => do
    let a ← first.toList.mapM (aeval env)
    let c ← captured.toList.mapM (aeval env)
    ok (.func (.func f) ⟨a⟩ ⟨c⟩)
  | .fieldAddr s x f => do
    let fields ← afields P s
    let fd ← fields[f]?
    let sz ← szOf P fd.type
    match ← aeval env x with
    | .pointer (some ⟨n, i, none⟩) => if sz ≠ 0 then ok (.pointer (some ⟨n, i + fd.offset, none⟩)) else none
    | _ => none
  | .indexAddr t x ix => do
    let i ← asNat (← aeval env ix)
    match P.underlying t, ← aeval env x with
    | some (.slice e), .slice (some ⟨n, j, none⟩) len _ => do
      let sz ← szOf P e
      if i < len then ok (.pointer (some ⟨n, j + i * sz, none⟩)) else none
    | some (.array len e), .pointer (some ⟨n, j, none⟩) => do
      let sz ← szOf P e
      if i < len then ok (.pointer (some ⟨n, j + i * sz, none⟩)) else none
    | _, _ => none
  | .index t x ix => do
    match P.underlying t, ← aeval env x with
    | some (.array len e), .agg cs => do
      let i ← asNat (← aeval env ix)
      let sz ← szOf P e
      if i < len then
        if ← isAggB P e then ok (.agg (cs.extract (i * sz) (i * sz + sz))) else ok (← cs[i * sz]?)
      else none
    | _, _ => gen
  | .field t x f => do
    let fields ← afields P t
    let fd ← fields[f]?
    let sz ← szOf P fd.type
    match ← aeval env x with
    | .agg cs => if ← isAggB P fd.type then ok (.agg (cs.extract fd.offset (fd.offset + sz))) else ok (← cs[fd.offset]?)
    | _ => none
  | .slice t x lo hi mx => do
    let l ← optEval env lo
    let h ← optEval env hi
    let m ← optEval env mx
    match P.underlying t, ← aeval env x with
    | some (.slice e), .slice (some ⟨n, i, none⟩) len cap => do
      let sz ← szOf P e
      let (a, b, c) ← abounds len cap l h m
      let (_, z, _) ← H.cells n
      if z = sz then some (.slice (some ⟨n, i + a * sz, none⟩) (b - a) (c - a), H, [n], []) else none
    | some (.array k e), .pointer (some ⟨n, i, none⟩) => do
      let sz ← szOf P e
      let (a, b, c) ← abounds k k l h m
      let (cs, z, _) ← H.cells n
      if z = sz ∧ i + k * sz ≤ cs.length then some (.slice (some ⟨n, i + a * sz, none⟩) (b - a) (c - a), H, [n], []) else none
    | _, _ => gen
  | .makeSlice t len cap => do
    let elem ← aelem P t
    let i ← P.info? elem
    let z ← i.zero
    let l ← asNat (← aeval env len)
    let c ← asNat (← aeval env cap)
    if clean z ∧ l ≤ c ∧ i.bytes * c ≤ 2 ^ 40 ∧ c ≤ 2 ^ 40 ∧ z.cells.size = i.size ∧ (c * i.size = 0 ∨ i.size ≠ 0) then
      some (.slice (some ⟨H.next, 0, none⟩) l c, H.new ⟨.cells (madeCells z.cells (c * i.size)).toList i.size, true, none⟩, [], [])
    else none
  | .convert src dst x => do
    match P.underlying src, P.underlying dst, ← aeval env x with
    | some (.slice e), some .string, .slice (some ⟨n, i, none⟩) len _ => do
      match P.underlying e with
      | some (.int .u8) => do
        let (l, _) ← H.cells n
        if i + len ≤ l.length then
          let bs ← abytes ((l.drop i).take len)
          some (.string ⟨⟨bs⟩⟩, H, [n], [])
        else none
      | _ => none
    | some .string, some (.slice e), .string s => do
      match P.underlying e with
      | some (.int .u8) => some (.slice (some ⟨H.next, 0, none⟩) s.size s.size, H.new ⟨.cells (s.data.toList.map fun b => .int .u8 b.toNat) 1, true, none⟩, [], [])
      | _ => none
    | some (.slice _), some (.slice e), .slice (some ⟨n, i, none⟩) l c => do
      match P.underlying e with
      | some (.int .u8) => do
        let (_, _, sb) ← H.cells n
        if src = dst ∧ sb = none then some (.slice (some ⟨n, i, none⟩) l c, H, [n], []) else none
      | _ => none
    | _, _, u => orTell gen (tellConv xc.convs src dst u) H
  | .binOp op t x y _ => do
    match op, ← aeval env x, ← aeval env y, P.underlying t with
    | .eql, .slice (some _) _ _, .slice none _ _, some (.slice _) => ok (.bool false)
    | .neq, .slice (some _) _ _, .slice none _ _, some (.slice _) => ok (.bool true)
    | .eql, .pointer (some _), .pointer none, some (.pointer _) => ok (.bool false)
    | .neq, .pointer (some _), .pointer none, some (.pointer _) => ok (.bool true)
    | .eql, .func _ _ _, .nilFunc, some (.func _ _ _) => ok (.bool false)
    | .neq, .func _ _ _, .nilFunc, some (.func _ _ _) => ok (.bool true)
    | .eql, .pointer (some ⟨n, i, none⟩), .pointer (some ⟨m, j, none⟩), some (.pointer te) => if n = m ∧ i = j ∧ (P.info? te).isSome = true then ok (.bool true) else none
    | .neq, .pointer (some ⟨n, i, none⟩), .pointer (some ⟨m, j, none⟩), some (.pointer te) => if n = m ∧ i = j ∧ (P.info? te).isSome = true then ok (.bool false) else none
    | .eql, .map (some _), .map none, some (.map _ _) => ok (.bool false)
    | .neq, .map (some _), .map none, some (.map _ _) => ok (.bool true)
    | _, u, w, _ => orTell gen (tellBin xc.bins op t u w) H
  | .call { callee := .builtin b, args, argTypes } => do
    match b with
    | .len => do
      match (argTypes[0]?).bind P.underlying, (← args.toList.head?.bind (aeval env)) with
      | some (.slice _), .slice _ n _ => ok (.int .i64 n)
      | some (.array n _), _ => ok (.int .i64 n)
      | _, _ => gen
    | .append => do
      match args.toList with
      | [s, x] => do aappend P H argTypes (← aeval env s) (← aeval env x)
      | _ => none
    | .copy => do
      match args.toList with
      | [s, x] => do acopy P H argTypes (← aeval env s) (← aeval env x)
      | _ => none
    | .delete => do
      match args.toList with
      | [m, k] => do
        let t ← argTypes[0]?
        adelete P H t (← aeval env k) (← aeval env m)
      | _ => none
    | .min => gen
    | .max => gen
    | _ => none
  | .call { callee := .value f, args, .. } => do
    let v ← aeval env f
    let as ← args.toList.mapM (aeval env)
    let (g, l) ← acallee v as
    let fn ← P.funcs[g]?
    if g = xc.cmp then acompare H l
    else if (fn.name == "runtime.NumGoroutine" || fn.body.isNone) = true then none else call g l H
  | .range t x => do
    match P.underlying t, ← aeval env x with
    | some .string, .string s => some (.pointer (some ⟨H.next, 0, none⟩), H.new ⟨.iter s 0, true, none⟩, [], [])
    | some (.map _ _), v => arangeMap H v
    | _, _ => none
  | .makeMap t none => some (.map (some H.next), H.new ⟨.map [] 0, true, none⟩, [], [])
  | .mapUpdate t m k x => do amapUpdate P H t (← aeval env k) (← aeval env x) (← aeval env m)
  | .lookup t m k b => do alookup P H t (← aeval env k) b (← aeval env m)
  | .next x false => do anextMap H (← aeval env x)
  | .entry x => do aentry H (← aeval env x)
  | .next x true => do
    match ← aeval env x with
    | .pointer (some ⟨n, 0, none⟩) => do
      match H.get n with
      | some ⟨.iter s pos, true, none⟩ =>
        if pos < s.size then
          let (c, w) := Utf8.decode s pos
          some (.tuple #[.bool true, .int .i64 pos, .int .i32 c], H.put n ⟨.iter s (pos + w), true, none⟩, [], [n])
        else some (.tuple #[.bool false], H, [n], [])
      | _ => none
    | _ => none
  | .unOp .. => gen
  | _ => none
/-- The same, each operation by itself: cheap for the kernel. -/
abbrev okR (H : AH) (v : Value) : Option Res := some (v, H, [], [])
noncomputable def f01 (P : Program) (xc : XC) (call : CallF) (env : List Value) (o : Oper) (H : AH) (x : Operand) : Option Res := do okR H (← aeval env x)
noncomputable def f02 (P : Program) (xc : XC) (call : CallF) (env : List Value) (o : Oper) (H : AH) (x : Operand) : Option Res := do okR H (← aeval env x)
noncomputable def f03 (P : Program) (xc : XC) (call : CallF) (env : List Value) (o : Oper) (H : AH) (c : Operand) (a : Operand) (b : Operand) : Option Res := do
    match ← aeval env c with
    | .bool true => okR H (← aeval env a)
    | .bool false => okR H (← aeval env b)
    | _ => none
noncomputable def f04 (P : Program) (xc : XC) (call : CallF) (env : List Value) (o : Oper) (H : AH) (x : Operand) (i : Nat) : Option Res := do
    match ← aeval env x with
    | .tuple vs => okR H (← vs.toList[i]?)
    | _ => none
noncomputable def f05 (P : Program) (xc : XC) (call : CallF) (env : List Value) (o : Oper) (H : AH) (t : TypeId) : Option Res := do
    let z ← zeroOf P t
    let (v, H') := anew H z.cells.toList (eszOf P t z.cells.size)
    if clean z then some (v, H', [], []) else none
noncomputable def f06 (P : Program) (xc : XC) (call : CallF) (env : List Value) (o : Oper) (H : AH) (t : TypeId) (x : Operand) : Option Res := do
    let v ← aeval env x
    let (p, H') := anew H v.cells.toList (eszOf P t v.cells.size)
    if v.cells.toList.all (·.oneCell') then some (p, H', [], []) else none
noncomputable def f07 (P : Program) (xc : XC) (call : CallF) (env : List Value) (o : Oper) (H : AH) (t : TypeId) (parts : Array (Nat × Operand)) : Option Res := do
    let z ← zeroOf P t
    let ps ← aparts env parts.toList
    if clean z then
      match P.underlying t with
      | some (.struct fields) => do
        let places ← aplaces P fields.toList
        let cs ← Instr.fill (places.toArray[·]?) z.cells ps
        okR H (.agg cs)
      | some (.array _ elem) => do
        let sz ← szOf P elem
        let cs ← Instr.fill (fun i => some (i * sz, sz)) z.cells ps
        okR H (.agg cs)
      | _ => none
    else none
noncomputable def f08 (P : Program) (xc : XC) (call : CallF) (env : List Value) (o : Oper) (H : AH) (t : TypeId) (len : Nat) (parts : Array (Nat × Operand)) : Option Res := do
    let elem ← aelem P t
    let sz ← szOf P elem
    let z ← zeroOf P elem
    let ps ← aparts env parts.toList
    if clean z ∧ len * sz ≤ 2 ^ 24 ∧ z.cells.size = sz then
      let cs ← Instr.fill (fun i => some (i * sz, sz)) (madeCells z.cells (len * sz)) ps
      if cs.toList.all (·.oneCell') then some (.slice (some ⟨H.next, 0, none⟩) len len, H.new ⟨.cells cs.toList sz, true, none⟩, [], []) else none
    else none
noncomputable def f09 (P : Program) (xc : XC) (call : CallF) (env : List Value) (o : Oper) (H : AH) (t : TypeId) (a : Operand) : Option Res := do aload P H t (← aeval env a)
noncomputable def f10 (P : Program) (xc : XC) (call : CallF) (env : List Value) (o : Oper) (H : AH) (t : TypeId) (a : Operand) (x : Operand) : Option Res := do astore P H t (← aeval env a) (← aeval env x)
noncomputable def f11 (P : Program) (xc : XC) (call : CallF) (env : List Value) (o : Oper) (H : AH) (x : Operand) : Option Res := do
    match ← aeval env x with
    | .pointer (some a) => okR H (.pointer (some a))
    | .func (.func f) a c => okR H (.func (.func f) a c)
    | _ => none
noncomputable def f12 (P : Program) (xc : XC) (call : CallF) (env : List Value) (o : Oper) (H : AH) (f : FuncId) (first : Array Operand) (captured : Array Operand) : Option Res := do
    let a ← first.toList.mapM (aeval env)
    let c ← captured.toList.mapM (aeval env)
    okR H (.func (.func f) ⟨a⟩ ⟨c⟩)
noncomputable def f13 (P : Program) (xc : XC) (call : CallF) (env : List Value) (o : Oper) (H : AH) (s : TypeId) (x : Operand) (f : Nat) : Option Res := do
    let fields ← afields P s
    let fd ← fields[f]?
    let sz ← szOf P fd.type
    match ← aeval env x with
    | .pointer (some ⟨n, i, none⟩) => if sz ≠ 0 then okR H (.pointer (some ⟨n, i + fd.offset, none⟩)) else none
    | _ => none
noncomputable def f14 (P : Program) (xc : XC) (call : CallF) (env : List Value) (o : Oper) (H : AH) (t : TypeId) (x : Operand) (ix : Operand) : Option Res := do
    let i ← asNat (← aeval env ix)
    match P.underlying t, ← aeval env x with
    | some (.slice e), .slice (some ⟨n, j, none⟩) len _ => do
      let sz ← szOf P e
      if i < len then okR H (.pointer (some ⟨n, j + i * sz, none⟩)) else none
    | some (.array len e), .pointer (some ⟨n, j, none⟩) => do
      let sz ← szOf P e
      if i < len then okR H (.pointer (some ⟨n, j + i * sz, none⟩)) else none
    | _, _ => none
noncomputable def f15 (P : Program) (xc : XC) (call : CallF) (env : List Value) (o : Oper) (H : AH) (t : TypeId) (x : Operand) (ix : Operand) : Option Res := do
    match P.underlying t, ← aeval env x with
    | some (.array len e), .agg cs => do
      let i ← asNat (← aeval env ix)
      let sz ← szOf P e
      if i < len then
        if ← isAggB P e then okR H (.agg (cs.extract (i * sz) (i * sz + sz))) else okR H (← cs[i * sz]?)
      else none
    | _, _ => agen P env o H
noncomputable def f16 (P : Program) (xc : XC) (call : CallF) (env : List Value) (o : Oper) (H : AH) (t : TypeId) (x : Operand) (f : Nat) : Option Res := do
    let fields ← afields P t
    let fd ← fields[f]?
    let sz ← szOf P fd.type
    match ← aeval env x with
    | .agg cs => if ← isAggB P fd.type then okR H (.agg (cs.extract fd.offset (fd.offset + sz))) else okR H (← cs[fd.offset]?)
    | _ => none
noncomputable def f17 (P : Program) (xc : XC) (call : CallF) (env : List Value) (o : Oper) (H : AH) (t : TypeId) (x : Operand) (lo : Option Operand) (hi : Option Operand) (mx : Option Operand) : Option Res := do
    let l ← optEval env lo
    let h ← optEval env hi
    let m ← optEval env mx
    match P.underlying t, ← aeval env x with
    | some (.slice e), .slice (some ⟨n, i, none⟩) len cap => do
      let sz ← szOf P e
      let (a, b, c) ← abounds len cap l h m
      let (_, z, _) ← H.cells n
      if z = sz then some (.slice (some ⟨n, i + a * sz, none⟩) (b - a) (c - a), H, [n], []) else none
    | some (.array k e), .pointer (some ⟨n, i, none⟩) => do
      let sz ← szOf P e
      let (a, b, c) ← abounds k k l h m
      let (cs, z, _) ← H.cells n
      if z = sz ∧ i + k * sz ≤ cs.length then some (.slice (some ⟨n, i + a * sz, none⟩) (b - a) (c - a), H, [n], []) else none
    | _, _ => agen P env o H
noncomputable def f18 (P : Program) (xc : XC) (call : CallF) (env : List Value) (o : Oper) (H : AH) (t : TypeId) (len : Operand) (cap : Operand) : Option Res := do
    let elem ← aelem P t
    let i ← P.info? elem
    let z ← i.zero
    let l ← asNat (← aeval env len)
    let c ← asNat (← aeval env cap)
    if clean z ∧ l ≤ c ∧ i.bytes * c ≤ 2 ^ 40 ∧ c ≤ 2 ^ 40 ∧ z.cells.size = i.size ∧ (c * i.size = 0 ∨ i.size ≠ 0) then
      some (.slice (some ⟨H.next, 0, none⟩) l c, H.new ⟨.cells (madeCells z.cells (c * i.size)).toList i.size, true, none⟩, [], [])
    else none
noncomputable def f19 (P : Program) (xc : XC) (call : CallF) (env : List Value) (o : Oper) (H : AH) (src : TypeId) (dst : TypeId) (x : Operand) : Option Res := do
    match P.underlying src, P.underlying dst, ← aeval env x with
    | some (.slice e), some .string, .slice (some ⟨n, i, none⟩) len _ => do
      match P.underlying e with
      | some (.int .u8) => do
        let (l, _) ← H.cells n
        if i + len ≤ l.length then
          let bs ← abytes ((l.drop i).take len)
          some (.string ⟨⟨bs⟩⟩, H, [n], [])
        else none
      | _ => none
    | some .string, some (.slice e), .string s => do
      match P.underlying e with
      | some (.int .u8) => some (.slice (some ⟨H.next, 0, none⟩) s.size s.size, H.new ⟨.cells (s.data.toList.map fun b => .int .u8 b.toNat) 1, true, none⟩, [], [])
      | _ => none
    | some (.slice _), some (.slice e), .slice (some ⟨n, i, none⟩) l c => do
      match P.underlying e with
      | some (.int .u8) => do
        let (_, _, sb) ← H.cells n
        if src = dst ∧ sb = none then some (.slice (some ⟨n, i, none⟩) l c, H, [n], []) else none
      | _ => none
    | _, _, u => orTell (agen P env o H) (tellConv xc.convs src dst u) H
noncomputable def f20 (P : Program) (xc : XC) (call : CallF) (env : List Value) (o : Oper) (H : AH) (op : BinOp) (t : TypeId) (x : Operand) (y : Operand) : Option Res := do
    match op, ← aeval env x, ← aeval env y, P.underlying t with
    | .eql, .slice (some _) _ _, .slice none _ _, some (.slice _) => okR H (.bool false)
    | .neq, .slice (some _) _ _, .slice none _ _, some (.slice _) => okR H (.bool true)
    | .eql, .pointer (some _), .pointer none, some (.pointer _) => okR H (.bool false)
    | .neq, .pointer (some _), .pointer none, some (.pointer _) => okR H (.bool true)
    | .eql, .func _ _ _, .nilFunc, some (.func _ _ _) => okR H (.bool false)
    | .neq, .func _ _ _, .nilFunc, some (.func _ _ _) => okR H (.bool true)
    | .eql, .pointer (some ⟨n, i, none⟩), .pointer (some ⟨m, j, none⟩), some (.pointer te) => if n = m ∧ i = j ∧ (P.info? te).isSome = true then okR H (.bool true) else none
    | .neq, .pointer (some ⟨n, i, none⟩), .pointer (some ⟨m, j, none⟩), some (.pointer te) => if n = m ∧ i = j ∧ (P.info? te).isSome = true then okR H (.bool false) else none
    | .eql, .map (some _), .map none, some (.map _ _) => okR H (.bool false)
    | .neq, .map (some _), .map none, some (.map _ _) => okR H (.bool true)
    | _, u, w, _ => orTell (agen P env o H) (tellBin xc.bins op t u w) H
noncomputable def f21 (P : Program) (xc : XC) (call : CallF) (env : List Value) (o : Oper) (H : AH) (b : Builtin) (args : Array Operand) (argTypes : Array TypeId) : Option Res := do
    match b with
    | .len => do
      match (argTypes[0]?).bind P.underlying, (← args.toList.head?.bind (aeval env)) with
      | some (.slice _), .slice _ n _ => okR H (.int .i64 n)
      | some (.array n _), _ => okR H (.int .i64 n)
      | _, _ => agen P env o H
    | .append => do
      match args.toList with
      | [s, x] => do aappend P H argTypes (← aeval env s) (← aeval env x)
      | _ => none
    | .copy => do
      match args.toList with
      | [s, x] => do acopy P H argTypes (← aeval env s) (← aeval env x)
      | _ => none
    | .delete => do
      match args.toList with
      | [m, k] => do
        let t ← argTypes[0]?
        adelete P H t (← aeval env k) (← aeval env m)
      | _ => none
    | .min => agen P env o H
    | .max => agen P env o H
    | _ => none
noncomputable def f22 (P : Program) (xc : XC) (call : CallF) (env : List Value) (o : Oper) (H : AH) (f : Operand) (args : Array Operand) : Option Res := do
    let v ← aeval env f
    let as ← args.toList.mapM (aeval env)
    let (g, l) ← acallee v as
    let fn ← P.funcs[g]?
    if g = xc.cmp then acompare H l
    else if (fn.name == "runtime.NumGoroutine" || fn.body.isNone) = true then none else call g l H
noncomputable def f23 (P : Program) (xc : XC) (call : CallF) (env : List Value) (o : Oper) (H : AH) (t : TypeId) (x : Operand) : Option Res := do
    match P.underlying t, ← aeval env x with
    | some .string, .string s => some (.pointer (some ⟨H.next, 0, none⟩), H.new ⟨.iter s 0, true, none⟩, [], [])
    | some (.map _ _), v => arangeMap H v
    | _, _ => none
noncomputable def f24 (P : Program) (xc : XC) (call : CallF) (env : List Value) (o : Oper) (H : AH) (t : TypeId) : Option Res := some (.map (some H.next), H.new ⟨.map [] 0, true, none⟩, [], [])
noncomputable def f25 (P : Program) (xc : XC) (call : CallF) (env : List Value) (o : Oper) (H : AH) (t : TypeId) (m : Operand) (k : Operand) (x : Operand) : Option Res := do amapUpdate P H t (← aeval env k) (← aeval env x) (← aeval env m)
noncomputable def f26 (P : Program) (xc : XC) (call : CallF) (env : List Value) (o : Oper) (H : AH) (t : TypeId) (m : Operand) (k : Operand) (b : Bool) : Option Res := do alookup P H t (← aeval env k) b (← aeval env m)
noncomputable def f27 (P : Program) (xc : XC) (call : CallF) (env : List Value) (o : Oper) (H : AH) (x : Operand) : Option Res := do anextMap H (← aeval env x)
noncomputable def f28 (P : Program) (xc : XC) (call : CallF) (env : List Value) (o : Oper) (H : AH) (x : Operand) : Option Res := do aentry H (← aeval env x)
noncomputable def f29 (P : Program) (xc : XC) (call : CallF) (env : List Value) (o : Oper) (H : AH) (x : Operand) : Option Res := do
    match ← aeval env x with
    | .pointer (some ⟨n, 0, none⟩) => do
      match H.get n with
      | some ⟨.iter s pos, true, none⟩ =>
        if pos < s.size then
          let (c, w) := Utf8.decode s pos
          some (.tuple #[.bool true, .int .i64 pos, .int .i32 c], H.put n ⟨.iter s (pos + w), true, none⟩, [], [n])
        else some (.tuple #[.bool false], H, [n], [])
      | _ => none
    | _ => none
noncomputable def aopF (P : Program) (xc : XC) (call : CallF) (env : List Value) (o : Oper) (H : AH) : Option Res := match o.op with
  | .move x => f01 P xc call env o H x
  | .assign x => f02 P xc call env o H x
  | .pick c a b => f03 P xc call env o H c a b
  | .extract x i => f04 P xc call env o H x i
  | .alloc t => f05 P xc call env o H t
  | .box t x => f06 P xc call env o H t x
  | .build t parts => f07 P xc call env o H t parts
  | .buildSlice t len parts => f08 P xc call env o H t len parts
  | .load t a => f09 P xc call env o H t a
  | .store t a x => f10 P xc call env o H t a x
  | .nilCheck x => f11 P xc call env o H x
  | .makeFunc (.func f) first captured => f12 P xc call env o H f first captured
  | .fieldAddr s x f => f13 P xc call env o H s x f
  | .indexAddr t x ix => f14 P xc call env o H t x ix
  | .index t x ix => f15 P xc call env o H t x ix
  | .field t x f => f16 P xc call env o H t x f
  | .slice t x lo hi mx => f17 P xc call env o H t x lo hi mx
  | .makeSlice t len cap => f18 P xc call env o H t len cap
  | .convert src dst x => f19 P xc call env o H src dst x
  | .binOp op t x y _ => f20 P xc call env o H op t x y
  | .call { callee := .builtin b, args, argTypes } => f21 P xc call env o H b args argTypes
  | .call { callee := .value f, args, .. } => f22 P xc call env o H f args
  | .range t x => f23 P xc call env o H t x
  | .makeMap t none => f24 P xc call env o H t
  | .mapUpdate t m k x => f25 P xc call env o H t m k x
  | .lookup t m k b => f26 P xc call env o H t m k b
  | .next x false => f27 P xc call env o H x
  | .entry x => f28 P xc call env o H x
  | .next x true => f29 P xc call env o H x
  | .unOp .. => agen P env o H
  | _ => none
theorem aopF_eq (P : Program) (xc : XC) (call : CallF) (env : List Value) (o : Oper) (H : AH) : aopF P xc call env o H = aop P xc call env o H := by
  unfold aopF aop
  cases o.op
  case makeFunc fn _ _ => cases fn <;> rfl
  case call c => cases c with | mk callee args ats => cases callee <;> rfl
  case next x b => cases b <;> rfl
  case makeMap t r => cases r <;> rfl
  all_goals rfl
inductive AX where
  | normal
  | exit (id : Nat)
  | ret
abbrev CRes := AX × List Value × AH × List Nat × List Nat
noncomputable def aputs (env : List Value) (d : Option Tmp) (v : Value) : List Value := match d with
  | some t => lset env t v
  | none => env
def ayield (ops : Array Oper) (env : List Value) (j : Nat) : Option Bool :=
  match ((ops[j]?).bind (·.dst)).bind (env[·]?) with
  | some (.bool b) => some b
  | _ => none
def ins (p n : Nat) (l : List Nat) : List Nat := if n < p then (if l.contains n then l else n :: l) else l
def insAll (p : Nat) (a l : List Nat) : List Nat := a.foldr (ins p) l
def allLt (n : Nat) : List Nat → Bool
  | [] => true
  | x :: l => Nat.blt x n && allLt n l
/-- An operation that touches only what there is. -/
noncomputable def aopB (P : Program) (xc : XC) (call : CallF) (env : List Value) (o : Oper) (H : AH) : Option Res :=
  match aopF P xc call env o H with
  | some (v, H1, r1, w1) => if allLt H.next r1 && allLt H.next w1 then some (v, H1, r1, w1) else none
  | none => none
/-- Operations one behind the other. -/
noncomputable def aops (P : Program) (xc : XC) (call : CallF) (p : Nat) (ops : Array Oper) : List Oper → List Value → AH → Option (List Value × AH × List Nat × List Nat)
  | [], env, H => some (env, H, [], [])
  | o :: rest, env, H =>
    if Region.wanted o (ayield ops env) then do
      let (v, H1, r1, w1) ← aopB P xc call env o H
      let (e2, H2, r2, w2) ← aops P xc call p ops rest (aputs env o.dst v) H1
      some (e2, H2, insAll p r1 r2, insAll p w1 w2)
    else aops P xc call p ops rest (aputs env o.dst undef) H
/-- What one operation reads and writes, and which names it makes. -/
abbrev Ent := List Nat × List Nat × Nat × Nat
/-- The same of a region that draws its order: what each operation reads and writes is told besides. -/
noncomputable def aopsD (P : Program) (xc : XC) (call : CallF) (p : Nat) (ops : Array Oper) : List Oper → List Value → AH → Option (List Value × AH × List Nat × List Nat × List Ent)
  | [], env, H => some (env, H, [], [], [])
  | o :: rest, env, H =>
    if Region.wanted o (ayield ops env) then do
      let (v, H1, r1, w1) ← aopB P xc call env o H
      let (e2, H2, r2, w2, fs) ← aopsD P xc call p ops rest (aputs env o.dst v) H1
      some (e2, H2, insAll p r1 r2, insAll p w1 w2, (r1, w1, H.next, H1.next) :: fs)
    else do
      let (e2, H2, r2, w2, fs) ← aopsD P xc call p ops rest (aputs env o.dst undef) H
      some (e2, H2, r2, w2, ([], [], H.next, H.next) :: fs)
def memN (x : Nat) : List Nat → Bool
  | [] => false
  | y :: l => Nat.beq x y || memN x l
def meets : List Nat → List Nat → Bool
  | [], _ => false
  | x :: a, b => memN x b || meets a b
def among (lo hi : Nat) : List Nat → Bool
  | [] => false
  | x :: l => (Nat.ble lo x && Nat.blt x hi) || among lo hi l
/-- Does one operation write or make what the one behind it touches, or read what that one writes? -/
def clash (a b : Ent) : Bool := meets a.2.1 b.2.1 || (meets a.2.1 b.1 || (meets b.2.1 a.1 || (among a.2.2.1 a.2.2.2 b.1 || among a.2.2.1 a.2.2.2 b.2.1)))
def hasBit (m n : Nat) : Bool := Nat.beq (Nat.land (Nat.shiftRight m n) 1) 1
/-- Which operations one waits for, itself or through others, as bits. -/
def ancBits (acc : List Nat) : List Edge → Nat
  | [] => 0
  | e :: l => if Region.binds .any e then Nat.lor (Nat.shiftLeft 1 e.on) (Nat.lor (acc.getD e.on 0) (ancBits acc l)) else ancBits acc l
def preds : List Oper → List Nat → List Nat
  | [], acc => acc
  | o :: rest, acc => preds rest (acc ++ [ancBits acc o.after.toList])
def silentB (a : Ent) : Bool := match a with
  | ([], [], lo, hi) => Nat.beq lo hi
  | _ => false
def untouching (b : Ent) : Bool := match b with
  | ([], [], _, _) => true
  | _ => false
def freeV (ps : List Nat) (k : Nat) (a : Ent) : Nat → List Ent → Bool
  | _, [] => true
  | m, b :: l => (untouching b || (!clash a b || hasBit (ps.getD m 0) k)) && freeV ps k a (m + 1) l
def freeL (ps : List Nat) : Nat → List Ent → Bool
  | _, [] => true
  | k, a :: l => (silentB a || freeV ps k a (k + 1) l) && freeL ps (k + 1) l
def lowB : Nat → List Oper → Bool
  | _, [] => true
  | i, o :: l => o.after.toList.all (fun e => !Region.binds .any e || Nat.blt e.on i) && lowB (i + 1) l
/-- Each target stands once; all of them as bits. -/
def dstBits : List Oper → Option Nat
  | [] => some 0
  | o :: l => match dstBits l with
    | some m => match o.dst with
      | some d => if hasBit m d then none else some (Nat.lor (Nat.shiftLeft 1 d) m)
      | none => some m
    | none => none
def hasDst (d : Nat) (q : Oper) : Bool := match q.dst with
  | some d' => Nat.beq d' d
  | none => false
def lookB (ops : Array Oper) (m : Nat) : Nat → List Oper → Bool
  | _, [] => true
  | i, o :: l => (o.looksAt ops).all (fun d => !hasBit m d || (o.after.toList.any (fun e => Region.binds .any e && (match ops[e.on]? with | some q => hasDst d q | none => false))
      || ops.toList.any (fun q => hasDst d q && q.after.toList.any (fun e => Region.binds .any e && Nat.beq e.on i)))) && lookB ops m (i + 1) l
def statOk (ops : Array Oper) : Bool := lowB 0 ops.toList && (match dstBits ops.toList with
  | some m => lookB ops m 0 ops.toList
  | none => false)
def freeOk (ops : Array Oper) (fs : List Ent) : Bool := statOk ops && freeL (preds ops.toList []) 0 fs
noncomputable def acode (P : Program) (xc : XC) (call : CallF) (p : Nat) : Nat → Code → List Value → AH → Option CRes
  | 0, _, _, _ => none
  | n + 1, c, env, H => match c with
    | .skip => some (.normal, env, H, [], [])
    | .region _ ops false => do
      let (e, H', r, w) ← aops P xc call p ops ops.toList env H
      some (.normal, e, H', r, w)
    | .region _ ops true => do
      let (e, H', r, w, fs) ← aopsD P xc call p ops ops.toList env H
      if freeOk ops fs then some (.normal, e, H', r, w) else none
    | .seq a b => do
      let (x, e1, H1, r1, w1) ← acode P xc call p n a env H
      match x with
      | .normal => do
        let (y, e2, H2, r2, w2) ← acode P xc call p n b e1 H1
        some (y, e2, H2, insAll p r1 r2, insAll p w1 w2)
      | x => some (x, e1, H1, r1, w1)
    | .cond x a b => do
      match ← aeval env x with
      | .bool true => acode P xc call p n a env H
      | .bool false => acode P xc call p n b env H
      | _ => none
    | .block id a => do
      let (x, e1, H1, r1, w1) ← acode P xc call p n a env H
      match x with
      | .exit j => some (if j = id then .normal else .exit j, e1, H1, r1, w1)
      | x => some (x, e1, H1, r1, w1)
    | .loop a => do
      let (x, e1, H1, r1, w1) ← acode P xc call p n a env H
      match x with
      | .normal => do
        let (y, e2, H2, r2, w2) ← acode P xc call p n (.loop a) e1 H1
        some (y, e2, H2, insAll p r1 r2, insAll p w1 w2)
      | x => some (x, e1, H1, r1, w1)
    | .exit id => some (.exit id, env, H, [], [])
    | .ret => some (.ret, env, H, [], [])
    | _ => none
noncomputable def aresult (P : Program) (env : List Value) (H : AH) : ResultVar → Option (Value × List Nat)
  | .tmp t => some (env.getD t undef, [])
  | .cell a t => do
    let (v, _, r, _) ← aload P H t (env.getD a undef)
    if allLt H.next r then some (v, r) else none
noncomputable def aresults (P : Program) (env : List Value) (H : AH) : List ResultVar → Option (List Value × List Nat)
  | [] => some ([], [])
  | x :: rest => do
    let (v, r) ← aresult P env H x
    let (vs, rs) ← aresults P env H rest
    some (v :: vs, r ++ rs)
noncomputable def acall (P : Program) (xc : XC) : Nat → CallF
  | 0, _, _, _ => none
  | d + 1, f, args, H => do
    let fn ← P.funcs[f]?
    if f = xc.sorted then asorted xc H args else
    if f = xc.clone then aclone H args else do
    let c ← fn.body
    if fn.name == "runtime.NumGoroutine" then none else
    let (x, env, H', r, w) ← acode P xc (acall P xc d) H.next 100000 c (args ++ List.replicate (fn.ntmps - args.length) undef) H
    match x with
    | .exit _ => none
    | _ => do
      let (vs, rs) ← aresults P env H' fn.results.toList
      some ((match vs with | [v] => v | vs => .tuple ⟨vs⟩), H', insAll H.next rs r, w)
def AH.empty : AH := ⟨.leaf, 0⟩
def isTrue : Option Res → Bool
  | some (.bool b, _, [], []) => b
  | _ => false
end Go.Proofs.Ytpjkbjpjhkcofaa.Ev
