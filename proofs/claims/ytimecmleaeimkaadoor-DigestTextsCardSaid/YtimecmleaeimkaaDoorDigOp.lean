/- An array of sixteen octets by value, as an argument: opened and shut. -/
import Derived.Test.YtimecmleaeimkaaDoorDigBk
import Derived.OpenShut
import Derived.ProofKit
import Derived.Lib.SmallJoins
namespace Go.Proofs.YtimecmleaeimkaaDoor
open Go.ChangeShapes Go.WideShapes Go.ChangeAt Go.RowKit Go.Joins
set_option linter.unusedVariables false
section
variable {H : Type} {enc : TypeId × Value → H} {w : World} {base : Nat} {spare : Nat → Bool} {held : Bool}
theorem okWide_array {P : Program} {r : Reach} {b0 : Nat} {t e : TypeId} {n : Nat} {v : Value} (ht : P.underlying t = some (.array n e)) (h : Value.okWide P w r b0 t v) : ∃ cs, v = .agg cs ∧ cs.size = P.cellsOf t := by
  simp only [Value.okWide, ht] at h
  obtain ⟨cs, h1, h2, _⟩ := h
  exact ⟨cs, h1, h2⟩
set_option maxRecDepth 100000 in
theorem open_oct16 {r : Reach} {b0 : Nat} {v : Value} {d : DataW H} {p : List MemPlace} (hv : Value.okWide Tryd.prog w r b0 28 v) (h : DataW.Trod enc Tryd.prog w base spare held 28 v d p) :
    ∃ f : Nat → Int, v = .agg (rowF f) ∧ (∀ j, j < 16 → 0 ≤ f j ∧ f j < 256) ∧ d = .agg ((List.range 16).map fun j => .lit (.int .u8 (f j))) ∧ p = [] := by
  obtain ⟨cs, rfl, hsz⟩ := okWide_array Tryd.underlying28 hv
  have hc16 : Tryd.prog.cellsOf 28 = 16 := by kernel_rfl
  have hc1 : Tryd.prog.cellsOf 5 = 1 := by kernel_rfl
  rw [hc16] at hsz
  obtain ⟨fuel, hf⟩ := h
  obtain ⟨xs, m, _, hx, hl, hxl, hat⟩ := DataW.trod_array Tryd.underlying28 hf
  rw [hc1] at hat
  have key : ∀ i, i < 16 → ∃ n, cs[i]? = some (.int .u8 n) ∧ xs[i]? = some (.lit (.int .u8 n), []) ∧ 0 ≤ n ∧ n < 256 := by
    intro i hi
    have h := hat i hi
    have hxi : xs[i]? = some (xs[i]'(by omega)) := List.getElem?_eq_getElem (by omega)
    rw [hxi] at h
    obtain ⟨n, e1, e2, wf⟩ := DataW.trod_int Tryd.underlying5 h
    simp only [Lit.wf, Bool.and_eq_true, decide_eq_true_eq] at wf
    refine ⟨n, ?_, by rw [hxi, e2], ?_⟩
    · have h0 := congrArg (fun l => l[0]?) e1
      change (List.take 1 (List.drop (i * 1) cs.toList))[0]? = _ at h0
      rw [List.getElem?_take_of_lt (by omega), List.getElem?_drop, Nat.mul_one, Nat.add_zero, Array.getElem?_toList] at h0
      exact h0
    · have h1 : IntKind.u8.min = 0 := rfl
      have h2 : IntKind.u8.max = 255 := rfl
      omega
  let f : Nat → Int := fun i => match cs[i]? with | some (.int _ n) => n | _ => 0
  have kf : ∀ i, i < 16 → cs[i]? = some (.int .u8 (f i)) ∧ xs[i]? = some (.lit (.int .u8 (f i)), []) ∧ 0 ≤ f i ∧ f i < 256 := by
    intro i hi
    obtain ⟨n, h1, h2, h3⟩ := key i hi
    have e : f i = n := by show (match cs[i]? with | some (.int _ n) => n | _ => 0) = n; rw [h1]
    rw [e]
    exact ⟨h1, h2, h3⟩
  clear_value f
  have hxs : xs = (List.range 16).map fun j => (DataW.lit (Lit.int .u8 (f j)), ([] : List MemPlace)) := by
    apply List.ext_getElem?
    intro i
    by_cases hi : i < 16
    · rw [(kf i hi).2.1, List.getElem?_map, List.getElem?_range hi]; rfl
    · rw [List.getElem?_eq_none (by omega), List.getElem?_eq_none (by simp; omega)]
  refine ⟨f, ?_, fun j hj => (kf j hj).2.2, ?_, ?_⟩
  · congr 1
    apply Array.ext_getElem?
    intro i
    by_cases hi : i < 16
    · rw [(kf i hi).1, rowF_at f i hi]
    · rw [Array.getElem?_eq_none (by omega), Array.getElem?_eq_none (by rw [rowF_size]; omega)]
  · rw [(Prod.mk.inj hx).1, hxs, List.map_map]; rfl
  · rw [(Prod.mk.inj hx).2, hxs]; simp
theorem mapM_all {α β : Type} (g : α → Option β) (k : α → β) : ∀ (l : List α), (∀ a ∈ l, g a = some (k a)) → l.mapM g = some (l.map k)
  | [], _ => rfl
  | a :: l, h => by
    rw [List.mapM_cons, h a (List.mem_cons_self ..), mapM_all g k l (fun b hb => h b (List.mem_cons_of_mem _ hb))]
    rfl
set_option maxRecDepth 100000 in
theorem shut_oct16 (f : Nat → Int) (hf : ∀ j, j < 16 → 0 ≤ f j ∧ f j < 256) : DataW.Trod enc Tryd.prog w base spare held 28 (.agg (rowF f)) (.agg ((List.range 16).map fun j => .lit (.int .u8 (f j)))) [] := by
  refine ⟨2, ?_⟩
  have hc16 : Tryd.prog.cellsOf 28 = 16 := by kernel_rfl
  have hc1 : Tryd.prog.cellsOf 5 = 1 := by kernel_rfl
  unfold DataW.trod
  rw [Tryd.underlying28]
  show (if (rowF f).toList.length = Tryd.prog.cellsOf 28 then ((List.range 16).mapM fun i => DataW.trod enc Tryd.prog w base spare held 1 5 (((rowF f).toList.drop (i * Tryd.prog.cellsOf 5)).take (Tryd.prog.cellsOf 5))).map (fun xs => (DataW.agg (xs.map (·.1)), xs.flatMap (·.2))) else none) = _
  rw [if_pos (by rw [hc16, Array.length_toList, rowF_size]), hc1]
  rw [mapM_all _ (fun j => (DataW.lit (Lit.int .u8 (f j)), ([] : List MemPlace))) _ (fun i hi => by
    have hi' : i < 16 := List.mem_range.1 hi
    have hl : i < (rowF f).toList.length := by rw [Array.length_toList, rowF_size]; exact hi'
    have e : ((rowF f).toList.drop (i * 1)).take 1 = [.int .u8 (f i)] := by
      have h := rowF_at f i hi'
      rw [← Array.getElem?_toList, List.getElem?_eq_getElem hl] at h
      rw [Nat.mul_one, List.drop_eq_getElem_cons hl, Option.some.inj h]
      rfl
    rw [e]
    unfold DataW.trod
    rw [Tryd.underlying5]
    have hb := hf i hi'
    have hw : (Lit.int .u8 (f i)).wf = true := by
      have h1 : IntKind.u8.min = 0 := rfl
      have h2 : IntKind.u8.max = 255 := rfl
      simp only [Lit.wf, Bool.and_eq_true, decide_eq_true_eq]
      omega
    show (if IntKind.u8 = IntKind.u8 ∧ (Lit.int .u8 (f i)).wf = true then some (DataW.lit (Lit.int .u8 (f i)), ([] : List MemPlace)) else none) = _
    rw [if_pos ⟨rfl, hw⟩])]
  simp [List.map_map]
end
end Go.Proofs.YtimecmleaeimkaaDoor
