/- The operations of a drawn region that print's rows take part in: calls, conversions, cuts. No program here. -/
import Derived.Test.YtfgeffmlfbeodaaRG
import Derived.Test.YtfgeffmlfbeodaaWMore
namespace Go.Proofs.Ytfgeffmlfbeodaa.RG
open Go Go.RowKit Go.Proofs.YtfgeffmlfbeodaaW.PrintWords Go.Proofs.YtfgeffmlfbeodaaW.PrintLast Go.Proofs.YtfgeffmlfbeodaaW.PrintMore
/-- A row of bytes that may be read. -/
def Row (xs : List Int) (v : Value) (W : World) : Prop := ∃ A c, v = .slice A xs.length c ∧ xs.length ≤ c ∧ Kd.C (Kd.int .u8) W A xs.length xs
theorem Row.below {xs : List Int} {v : Value} {w w' : World} (h : Row xs v w) (hb : Below w.heap.size w w') : Row xs v w' := by
  obtain ⟨A, c, e, hc, hC⟩ := h
  exact ⟨A, c, e, hc, Kd.C_below hC hb⟩
theorem Row.of_R {xs : List Int} {v : Value} {w : World} {e base : Nat} {ok : Nat → Prop} (h : Kd.R (Kd.int .u8) e w base ok v xs) : Row xs v w := Kd.R_reads h
theorem Row.of_V {xs : List Int} {v : Value} {w : World} {e base : Nat} {ok : Nat → Prop} (h : Kd.V (Kd.int .u8) e w base ok v xs) : Row xs v w := by
  obtain ⟨A, c, hv⟩ := Kd.V_slice h
  subst hv
  exact ⟨A, c, rfl, (Kd.V_reads' h).2.1, (Kd.V_reads' h).2.2⟩
section
variable {P : Program} {ops : Array Oper} {Q : Exit → Act → World → Prop} {md : Region.Mode}
theorem rgW.conv {S : World → Prop} {o : Oper} {rest : List Oper} {sp : List Sp} {i : Nat} {b b' : Act} {fs : List (Nat × (World → Prop))} {xs : List Int} {src dst e : TypeId} {x : Operand} {v c : Value} (hw : Region.wanted o (yielded ops b.tmps) = true)
    (ho : o.op = .convert src dst x) (hx : b.eval x = v) (hs : P.underlying src = some (.slice e)) (he : P.underlying e = some (.int .u8)) (hd : P.underlying dst = some .string)
    (hcv : c = .string (strOfNums xs)) (hk : ∀ w, S w → Known md o fs w → Row xs v w) (hb : b.put o.dst c = b') (h : rgW P md ops S Q rest sp (i + 1) b' fs) :
    rgW P md ops S Q (o :: rest) (.exact c :: sp) i b fs := by
  subst hcv
  refine rgW.read hw (fun w hS hK => ?_) hb h
  obtain ⟨A, c, rfl, hc, hC⟩ := hk w hS hK
  have := Kd.C_string (P := P) (c := c) hs he hd hC
  simp only [execOp, ho, hx]
  rw [Sem.run_bind, this]
  rfl
theorem rgW.call {S : World → Prop} {G : Value → World → Prop} {o : Oper} {rest : List Oper} {sp : List Sp} {i : Nat} {b : Act} {b' : Value → Act} {fs : List (Nat × (World → Prop))} {f : FuncId} {fn : Func} {as : Array Operand} {ts : Array TypeId} (args : Array Value)
    (hf : P.funcs[f]? = some fn) (hname : (fn.name == "runtime.NumGoroutine") = false) (hbody : fn.body.isSome = true) (hw : Region.wanted o (yielded ops b.tmps) = true)
    (hop : o.op = .call { callee := .value (.func f), args := as, argTypes := ts }) (hargs : as.map b.eval = args)
    (hc : ∀ w, S w → Known md o fs w → Calls P f args w fun e w' => ∃ v, e = .returned v ∧ G v w' ∧ Below w.heap.size w w')
    (hb : ∀ v, b.put o.dst v = b' v) (h : ∀ v, rgW P md ops S Q rest sp (i + 1) (b' v) ((i, G v) :: fs)) : rgW P md ops S Q (o :: rest) (.ex G :: sp) i b fs := by
  refine rgW.told hb (fun w hS hK K hKK => ?_) h
  refine goes_ hf hname hbody args hw rfl hop hargs ((hc w hS hK).mono ?_)
  rintro e w' ⟨v, rfl, hg, hb⟩
  exact ⟨v, rfl, hKK v w' hg hb⟩
theorem rgW.callx {S : World → Prop} {c d : Value} {o : Oper} {rest : List Oper} {sp : List Sp} {i : Nat} {b b' : Act} {fs : List (Nat × (World → Prop))} {f : FuncId} {fn : Func} {as : Array Operand} {ts : Array TypeId} (args : Array Value)
    (hf : P.funcs[f]? = some fn) (hname : (fn.name == "runtime.NumGoroutine") = false) (hbody : fn.body.isSome = true) (hw : Region.wanted o (yielded ops b.tmps) = true)
    (hop : o.op = .call { callee := .value (.func f), args := as, argTypes := ts }) (hargs : as.map b.eval = args)
    (hc : ∀ w, S w → Known md o fs w → Calls P f args w fun e w' => e = .returned d ∧ Below w.heap.size w w')
    (hcv : c = d) (hb : b.put o.dst c = b') (h : rgW P md ops S Q rest sp (i + 1) b' fs) : rgW P md ops S Q (o :: rest) (.exact c :: sp) i b fs := by
  subst hb
  subst hcv
  refine ⟨fun w hS hK K hKK => ?_, h⟩
  refine goes_ hf hname hbody args hw rfl hop hargs ((hc w hS hK).mono ?_)
  rintro e w' ⟨rfl, hb⟩
  exact ⟨c, rfl, hKK c w' ⟨rfl, hb⟩⟩
end
end Go.Proofs.Ytfgeffmlfbeodaa.RG
