/- A digest in progress as an argument: opened and shut. -/
import Derived.Test.YtimecmleaeimkaaDoorDigPo
import Derived.OpenShut
import Derived.ProofKit
import Derived.Lib.SmallJoins
import Derived.Deep.Strs
namespace Go.Proofs.YtimecmleaeimkaaDoor
open Go.ChangeShapes Go.WideShapes Go.ChangeAt Go.RowKit Go.Joins
open Go.Deep (trod_struct3 trod_struct3_mk)
set_option linter.unusedVariables false
section
variable {H : Type} {enc : TypeId × Value → H} {w : World} {base : Nat} {spare : Nat → Bool} {held : Bool}
structure DgOk (d : Dg) : Prop where
  a : (Lit.int .i64 d.x.a).wf = true
  b : (Lit.int .i64 d.x.b).wf = true
  c : (Lit.int .i64 d.x.c).wf = true
  e : (Lit.int .i64 d.x.d).wf = true
  l : (Lit.int .i64 d.l).wf = true
  r : d.r.size ≤ 9223372036854775807
def dgD (d : Dg) : DataW H := .agg [.agg [.lit (.int .i64 d.x.a), .lit (.int .i64 d.x.b), .lit (.int .i64 d.x.c), .lit (.int .i64 d.x.d)], .lit (.int .i64 d.l), .lit (.string d.r.data.toList)]
theorem six {α : Type} {cs : Array α} (h : cs.size = 6) : ∃ a b c d e f, cs = #[a, b, c, d, e, f] := by
  obtain ⟨l⟩ := cs
  match l, h with
  | [a, b, c, d, e, f], _ => exact ⟨a, b, c, d, e, f, rfl⟩
set_option maxRecDepth 100000 in
theorem open_dg {r : Reach} {b0 : Nat} {v : Value} {d : DataW H} {p : List MemPlace} (hv : Value.okWide Tryd.prog w r b0 41 v) (h : DataW.Trod enc Tryd.prog w base spare held 41 v d p) :
    ∃ g : Dg, v = g.v ∧ DgOk g ∧ d = dgD g ∧ p = [] := by
  obtain ⟨cs, rfl, hsz⟩ := okWide_struct Tryd.underlying41 hv
  have hc6 : Tryd.prog.cellsOf 41 = 6 := by kernel_rfl
  have hc4 : Tryd.prog.cellsOf 39 = 4 := by kernel_rfl
  have hc1 : Tryd.prog.cellsOf 3 = 1 := by kernel_rfl
  have hcs : Tryd.prog.cellsOf 9 = 1 := by kernel_rfl
  obtain ⟨c0, c1, c2, c3, c4, c5, rfl⟩ := six (hsz.trans hc6)
  obtain ⟨fuel, hf⟩ := h
  obtain ⟨y0, y1, y2, n, hx, _, h0, h1, h2⟩ := trod_struct3 Tryd.underlying41 hf
  simp only [hc4, hc1, hcs, Value.cells, List.drop_zero, List.take_succ_cons, List.take_zero, List.drop_succ_cons] at h0 h1 h2
  obtain ⟨xs, m, _, hx0, hl, hxl, hat⟩ := DataW.trod_array Tryd.underlying39 h0
  rw [hc1] at hat
  have key : ∀ i (hi : i < 4) (c : Value), [c0, c1, c2, c3][i]? = some c → ∃ z, c = .int .i64 z ∧ xs[i]? = some (.lit (.int .i64 z), []) ∧ (Lit.int .i64 z).wf = true := by
    intro i hi c hc
    have h := hat i hi
    have hxi : xs[i]? = some (xs[i]'(by omega)) := List.getElem?_eq_getElem (by omega)
    rw [hxi] at h
    obtain ⟨z, e1, e2, wf⟩ := DataW.trod_int Tryd.underlying3 h
    refine ⟨z, ?_, by rw [hxi, e2], wf⟩
    have h0 := congrArg (fun l => l[0]?) e1
    change (List.take 1 (List.drop (i * 1) [c0, c1, c2, c3]))[0]? = _ at h0
    rw [List.getElem?_take_of_lt (by omega), List.getElem?_drop, Nat.mul_one, Nat.add_zero, hc] at h0
    simpa using h0
  obtain ⟨z0, rfl, k0, w0⟩ := key 0 (by omega) c0 rfl
  obtain ⟨z1, rfl, k1, w1⟩ := key 1 (by omega) c1 rfl
  obtain ⟨z2, rfl, k2, w2⟩ := key 2 (by omega) c2 rfl
  obtain ⟨z3, rfl, k3, w3⟩ := key 3 (by omega) c3 rfl
  obtain ⟨z4, e4, rfl, w4⟩ := DataW.trod_int Tryd.underlying3 h1
  obtain ⟨s5, e5, rfl, w5⟩ := DataW.trod_string Tryd.underlying9 h2
  simp only [List.cons.injEq, and_true] at e4 e5
  subst e4 e5
  have hxs : xs = [(.lit (.int .i64 z0), []), (.lit (.int .i64 z1), []), (.lit (.int .i64 z2), []), (.lit (.int .i64 z3), [])] := by
    apply List.ext_getElem?
    intro i
    match i with
    | 0 => exact k0
    | 1 => exact k1
    | 2 => exact k2
    | 3 => exact k3
    | n + 4 => rw [List.getElem?_eq_none (by omega), List.getElem?_eq_none (by simp)]
  subst hxs
  refine ⟨⟨⟨z0, z1, z2, z3⟩, z4, s5⟩, rfl, ⟨w0, w1, w2, w3, w4, w5⟩, ?_, ?_⟩
  · rw [(Prod.mk.inj hx).1, hx0]; rfl
  · rw [(Prod.mk.inj hx).2, hx0]; rfl
set_option maxRecDepth 100000 in
theorem shut_dg (g : Dg) (hg : DgOk g) : DataW.Trod enc Tryd.prog w base spare held 41 g.v (dgD g) [] := by
  have hc6 : Tryd.prog.cellsOf 41 = 6 := by kernel_rfl
  have hc4 : Tryd.prog.cellsOf 39 = 4 := by kernel_rfl
  have hc1 : Tryd.prog.cellsOf 3 = 1 := by kernel_rfl
  have hcs : Tryd.prog.cellsOf 9 = 1 := by kernel_rfl
  have ti : ∀ (n : Nat) (z : Int), (Lit.int .i64 z).wf = true → DataW.trod enc Tryd.prog w base spare held (n + 1) 3 [.int .i64 z] = some (.lit (.int .i64 z), []) := fun n z hz => trod_int_mk n Tryd.underlying3 hz
  refine ⟨3, ?_⟩
  have e := trod_struct3_mk (enc := enc) (w := w) (base := base) (spare := spare) (held := held) (n := 2) (cs := (dgL g.x g.l g.r).toList) (y0 := (.agg [.lit (.int .i64 g.x.a), .lit (.int .i64 g.x.b), .lit (.int .i64 g.x.c), .lit (.int .i64 g.x.d)], [])) (y1 := (.lit (.int .i64 g.l), [])) (y2 := (.lit (.string g.r.data.toList), [])) Tryd.underlying41 (by rw [hc6]; rfl) ?_ ?_ ?_
  · exact e
  · rw [hc4]
    unfold DataW.trod
    rw [Tryd.underlying39]
    simp only [hc4, hc1]
    show (if [Value.int IntKind.i64 g.x.a, .int .i64 g.x.b, .int .i64 g.x.c, .int .i64 g.x.d].length = 4 then _ else none) = _
    rw [if_pos (show [Value.int IntKind.i64 g.x.a, .int .i64 g.x.b, .int .i64 g.x.c, .int .i64 g.x.d].length = 4 from rfl)]
    simp only [dgL, List.drop_zero, List.take_succ_cons, List.take_zero, List.range, List.range.loop, List.mapM_cons, List.mapM_nil, Nat.zero_mul, Nat.one_mul, List.drop_succ_cons]
    rw [ti 0 _ hg.a, ti 0 _ hg.b, ti 0 _ hg.c, ti 0 _ hg.e]
    rfl
  · rw [hc1]
    exact ti 1 _ hg.l
  · rw [hcs]
    show DataW.trod enc Tryd.prog w base spare held 2 9 [.string g.r] = _
    unfold DataW.trod
    rw [Tryd.underlying9]
    have hr : g.r.size ≤ maxLen := hg.r
    simp [hr]
end
end Go.Proofs.YtimecmleaeimkaaDoor
