/- A list of octets as an argument: opened. -/
import Derived.Test.YtimecmleaeimkaaDoorDigCu
import Derived.OpenShut
import Derived.ProofKit
import Derived.Lib.SmallJoins
import Derived.ChangeSlices
namespace Go.Proofs.YtimecmleaeimkaaDoor
open Go.ChangeShapes Go.WideShapes Go.ChangeAt Go.RowKit Go.Joins
set_option linter.unusedVariables false
section
variable {H : Type} {enc : TypeId × Value → H} {W : World}
theorem open_cuts {A : Option Addr} {m cap : Nat} {d : DataW H} {p : List MemPlace} (h : DataW.Trod enc Tryd.prog W 0 (fun _ => true) true 34 (.slice A m cap) d p) :
    (A = none → m = 0 ∧ cap = 0) ∧ m ≤ cap ∧ cap ≤ 9223372036854775807 ∧ (∀ i, i < m → ∃ a c, A = some a ∧ 0 ≤ c ∧ c < 256 ∧ W.cell? (a.add i) = some (.int .u8 c)) ∧ (∀ x ∈ p, x.block < W.heap.size) := by
  obtain ⟨fuel, hf⟩ := h
  rcases open_ints Tryd.underlying34 Tryd.underlying5 (by kernel_rfl) hf with ⟨hcs, hx⟩ | ⟨a, len, cap', zs, hcs, _, hl, hm, hz, hx, hcell, hwz⟩
  · simp only [Value.cells, List.cons.injEq, Value.slice.injEq, and_true] at hcs
    obtain ⟨rfl, rfl, rfl⟩ := hcs
    obtain ⟨rfl, rfl⟩ := Prod.mk.inj hx
    exact ⟨fun _ => ⟨rfl, rfl⟩, by omega, by omega, fun i hi => by omega, fun x hx => by cases hx⟩
  · simp only [Value.cells, List.cons.injEq, Value.slice.injEq, and_true] at hcs
    obtain ⟨rfl, rfl, rfl⟩ := hcs
    obtain ⟨rfl, rfl⟩ := Prod.mk.inj hx
    simp only [if_true] at hz
    refine ⟨fun h => (by cases h), hl, hm, fun i hi => ⟨a, zs.getD i 0, rfl, ?_⟩, fun x hx => ?_⟩
    · have hi' : i < zs.length := by omega
      have hw := hwz (zs.getD i 0) (by rw [List.getD_eq_getElem?_getD, List.getElem?_eq_getElem hi']; exact List.getElem_mem hi')
      simp only [Lit.wf, Bool.and_eq_true, decide_eq_true_eq] at hw
      have h1 : IntKind.u8.min = 0 := rfl
      have h2 : IntKind.u8.max = 255 := rfl
      exact ⟨by omega, by omega, hcell i hi'⟩
    · obtain ⟨i, hi, rfl⟩ := MemPlace.mem_row.1 hx
      have := World.block_lt_of_cell? W _ (hcell i hi)
      show a.block < W.heap.size
      have e : (a.add i).block = a.block := by unfold Addr.add; split <;> rfl
      rw [e] at this
      exact this
end
end Go.Proofs.YtimecmleaeimkaaDoor
