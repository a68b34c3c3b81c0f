/- The four rounds of package digest: what rounds returns, and its closures. -/
import Derived.Test.YtimecmleaeimkaaDoorBase2
import Derived.Laws.BitsAllLaws
namespace Go.Proofs.YtimecmleaeimkaaDoor
open Go.RowKit
set_option linter.unusedVariables false

/-- A closure with two captured variables. -/
def clo2 (f g h : Nat) : Value := .func (.func f) #[] #[.pointer (some ⟨g, 0, none⟩), .pointer (some ⟨h, 0, none⟩)]
def clo1 (f g : Nat) : Value := .func (.func f) #[] #[.pointer (some ⟨g, 0, none⟩)]
def fnv (f : Nat) : Value := .func (.func f) #[] #[]

/-- What every(f, n) returns. -/
def EveryRet (w : World) (f n : Int) (e : Ending) (w' : World) : Prop := ∃ g h, e = .returned (clo2 113 g h) ∧ w'.cell? ⟨g, 0, none⟩ = some (.int .i64 f) ∧ w'.cell? ⟨h, 0, none⟩ = some (.int .i64 n) ∧ Ext w w'
set_option maxHeartbeats 400000 in
theorem every_c (f n : Int) (w : World) : Calls Tryd.prog 112 #[.int .i64 f, .int .i64 n] w (EveryRet w f n) := by
  go_enter Tryd.func112, Tryd.ntmps112
  go_wp2
  go_ret
  exact ⟨w.heap.size, w.heap.size + 1, rfl, by simp, by simp, (by repeat (first | exact Ext.refl _ | assumption | apply Ext.alloc | apply Ext.drew | apply Ext.drewN | apply Ext.bytes | apply Ext.iter | refine Ext.setCell ?_ (by simp; omega) _ | refine Ext.trans ?_ (by assumption)))⟩

def rnd (of word : Value) (a b c d : Int) : List Value := [of, word, .int .i64 a, .int .i64 b, .int .i64 c, .int .i64 d]
def RoundsRet (w : World) (e : Ending) (w' : World) : Prop :=
  ∃ gc g0 h0 g1 h1 g2 h2 g3 h3, e = .returned (.agg (rnd (fnv 111) (clo2 113 g0 h0) 7 12 17 22 ++ rnd (clo1 114 gc) (clo2 113 g1 h1) 5 9 14 20 ++ rnd (fnv 115) (clo2 113 g2 h2) 4 11 16 23 ++ rnd (fnv 116) (clo2 113 g3 h3) 6 10 15 21).toArray) ∧
    w'.cell? ⟨gc, 0, none⟩ = some (fnv 111) ∧
    w'.cell? ⟨g0, 0, none⟩ = some (.int .i64 1) ∧ w'.cell? ⟨h0, 0, none⟩ = some (.int .i64 0) ∧
    w'.cell? ⟨g1, 0, none⟩ = some (.int .i64 5) ∧ w'.cell? ⟨h1, 0, none⟩ = some (.int .i64 1) ∧
    w'.cell? ⟨g2, 0, none⟩ = some (.int .i64 3) ∧ w'.cell? ⟨h2, 0, none⟩ = some (.int .i64 5) ∧
    w'.cell? ⟨g3, 0, none⟩ = some (.int .i64 7) ∧ w'.cell? ⟨h3, 0, none⟩ = some (.int .i64 0) ∧ Ext w w'
attribute [local go_sem] clo2 clo1 fnv
set_option maxHeartbeats 1000000 in
set_option maxRecDepth 100000 in
theorem rounds_c (w : World) : Calls Tryd.prog 88 #[] w (RoundsRet w) := by
  go_enter Tryd.func88, Tryd.ntmps88
  go_wp2
  refine wp_name fun W1 hW1 => ?_
  have hE : Ext w W1 := by rw [hW1.out]; exact (by repeat (first | exact Ext.refl _ | assumption | apply Ext.alloc | apply Ext.drew | apply Ext.drewN | apply Ext.bytes | apply Ext.iter | refine Ext.setCell ?_ (by simp; omega) _ | refine Ext.trans ?_ (by assumption)))
  have hc : W1.cell? ⟨w.heap.size + 1, 0, none⟩ = some (fnv 111) := by rw [hW1.out]; simp [fnv]
  obtain ⟨old, hold, hos, hnil⟩ : ∃ old, W1.heap[w.heap.size]? = some (.cells old 129 (0, 0)) ∧ old.size = 24 ∧ old[0]? = some .nilFunc := by rw [hW1.out]; exact ⟨_, by simp only [World.alloc, Array.getElem?_push]; simp; rfl, by rfl, by rfl⟩
  have hC0 : ∀ w', Ext W1 w' → Ext w w' ∧ w'.cell? ⟨w.heap.size + 1, 0, none⟩ = some (fnv 111) := fun w' h => ⟨Ext.trans hE h, Ext.cell h hc⟩
  refine wp_region_seq (fun w' => Ext w w' ∧ w'.cell? ⟨w.heap.size + 1, 0, none⟩ = some (fnv 111)) (by kernel_rfl) (by kernel_rfl) (by kernel_rfl) (hC0 _ (Ext.drew (Ext.refl _))) ?_
  repeat (first
    | (refine wpSeq_skip rfl ?_; (try simp only [Act.put, List.setIfInBounds_toArray, List.set_cons_zero, List.set_cons_succ]))
    | (apply wpSeq_still; exact rfl; exact rfl; (rintro w' ⟨_, hw'⟩; go_simp; first | done | exact rfl); (try simp only [Act.put, List.setIfInBounds_toArray, List.set_cons_zero, List.set_cons_succ])))
  refine wpSeq_busy rfl rfl ?_
  go_simp
  go_at_call 112
  refine (every_c _ _ _).mono ?_
  rintro e x0 ⟨g0, h0, rfl, c0, d0, hb0⟩
  refine ⟨_, rfl, hC0 _ (by repeat (first | exact Ext.refl _ | assumption | apply Ext.alloc | apply Ext.drew | apply Ext.drewN | apply Ext.bytes | apply Ext.iter | refine Ext.setCell ?_ (by simp; omega) _ | refine Ext.trans ?_ (by assumption))), ?_⟩
  (try simp only [Act.put, List.setIfInBounds_toArray, List.set_cons_zero, List.set_cons_succ])
  repeat (first
    | (refine wpSeq_skip rfl ?_; (try simp only [Act.put, List.setIfInBounds_toArray, List.set_cons_zero, List.set_cons_succ]))
    | (apply wpSeq_still; exact rfl; exact rfl; (rintro w' ⟨_, hw'⟩; go_simp; first | done | exact rfl); (try simp only [Act.put, List.setIfInBounds_toArray, List.set_cons_zero, List.set_cons_succ])))
  refine wpSeq_busy rfl rfl ?_
  go_simp
  go_at_call 112
  refine (every_c _ _ _).mono ?_
  rintro e x1 ⟨g1, h1, rfl, c1, d1, hb1⟩
  refine ⟨_, rfl, hC0 _ (by repeat (first | exact Ext.refl _ | assumption | apply Ext.alloc | apply Ext.drew | apply Ext.drewN | apply Ext.bytes | apply Ext.iter | refine Ext.setCell ?_ (by simp; omega) _ | refine Ext.trans ?_ (by assumption))), ?_⟩
  (try simp only [Act.put, List.setIfInBounds_toArray, List.set_cons_zero, List.set_cons_succ])
  repeat (first
    | (refine wpSeq_skip rfl ?_; (try simp only [Act.put, List.setIfInBounds_toArray, List.set_cons_zero, List.set_cons_succ]))
    | (apply wpSeq_still; exact rfl; exact rfl; (rintro w' ⟨_, hw'⟩; go_simp; first | done | exact rfl); (try simp only [Act.put, List.setIfInBounds_toArray, List.set_cons_zero, List.set_cons_succ])))
  refine wpSeq_busy rfl rfl ?_
  go_simp
  go_at_call 112
  refine (every_c _ _ _).mono ?_
  rintro e x2 ⟨g2, h2, rfl, c2, d2, hb2⟩
  refine ⟨_, rfl, hC0 _ (by repeat (first | exact Ext.refl _ | assumption | apply Ext.alloc | apply Ext.drew | apply Ext.drewN | apply Ext.bytes | apply Ext.iter | refine Ext.setCell ?_ (by simp; omega) _ | refine Ext.trans ?_ (by assumption))), ?_⟩
  (try simp only [Act.put, List.setIfInBounds_toArray, List.set_cons_zero, List.set_cons_succ])
  repeat (first
    | (refine wpSeq_skip rfl ?_; (try simp only [Act.put, List.setIfInBounds_toArray, List.set_cons_zero, List.set_cons_succ]))
    | (apply wpSeq_still; exact rfl; exact rfl; (rintro w' ⟨_, hw'⟩; go_simp; first | done | exact rfl); (try simp only [Act.put, List.setIfInBounds_toArray, List.set_cons_zero, List.set_cons_succ])))
  refine wpSeq_busy rfl rfl ?_
  go_simp
  go_at_call 112
  refine (every_c _ _ _).mono ?_
  rintro e x3 ⟨g3, h3, rfl, c3, d3, hb3⟩
  refine ⟨_, rfl, hC0 _ (by repeat (first | exact Ext.refl _ | assumption | apply Ext.alloc | apply Ext.drew | apply Ext.drewN | apply Ext.bytes | apply Ext.iter | refine Ext.setCell ?_ (by simp; omega) _ | refine Ext.trans ?_ (by assumption))), ?_⟩
  (try simp only [Act.put, List.setIfInBounds_toArray, List.set_cons_zero, List.set_cons_succ])
  repeat (first
    | (refine wpSeq_skip rfl ?_; (try simp only [Act.put, List.setIfInBounds_toArray, List.set_cons_zero, List.set_cons_succ]))
    | (apply wpSeq_still; exact rfl; exact rfl; (rintro w' ⟨_, hw'⟩; go_simp; first | done | exact rfl); (try simp only [Act.put, List.setIfInBounds_toArray, List.set_cons_zero, List.set_cons_succ])))
  have hE2 : Ext W1 x3 := (by repeat (first | exact Ext.refl _ | assumption | apply Ext.alloc | apply Ext.drew | apply Ext.drewN | apply Ext.bytes | apply Ext.iter | refine Ext.setCell ?_ (by simp; omega) _ | refine Ext.trans ?_ (by assumption)))
  have hg2 := Ext.blk hE2 hold
  refine wpSeq_busy rfl rfl (busy_store_row _ _ _ rfl w.heap.size _ rfl rfl _ _ hg2 (by kernel_rfl) hos (by kernel_rfl) ⟨Ext.setRow (Ext.trans hE hE2) (Nat.le_refl _) _, by rw [cell_setRow_other _ _ _ _ (by simp)]; exact (hC0 _ hE2).2⟩ ?_)
  refine wpSeq_nil ?_
  intro hq1 hq2
  have hsame := fun j cs => cell_setRow_same x3 w.heap.size j _ cs _ _ hg2
  go_wp2
  have old3 : ∀ a : Addr, ∀ v, x3.cell? a = some v → a.block ≠ w.heap.size → ∀ cs, (x3.setRow w.heap.size cs).cell? a = some v := fun a v ha hne cs => by rw [cell_setRow_other _ _ _ _ hne]; exact ha
  refine bodyPost_ret (results_cell_row Tryd.results88 _ _ w.heap.size _ _ _ _ rfl (setRow_heap _ _ _ _ _ _ hg2) Tryd.underlying129 rfl (by kernel_rfl)) rfl ?_
  have y2 : Ext x2 x3 := hb3
  have y1 : Ext x1 x3 := Ext.trans hb2 y2
  have y0 : Ext x0 x3 := Ext.trans hb1 y1
  have nb : ∀ {x : World} {k : Nat} {n : Int}, Ext x x3 → x.cell? ⟨k, 0, none⟩ = some (.int .i64 n) → ∀ cs, (x3.setRow w.heap.size cs).cell? ⟨k, 0, none⟩ = some (.int .i64 n) := fun {x k n} hx hv cs => by
    refine old3 _ _ (Ext.cell hx hv) ?_ cs
    intro hk
    have h3 := Ext.cell hx hv
    simp only at hk
    rw [hk, cell_of_row _ _ _ _ _ _ hg2, hnil] at h3
    cases h3
  exact ⟨_, g0, h0, g1, h1, g2, h2, g3, h3, rfl, old3 _ _ (hC0 _ hE2).2 (by simp) _, nb y0 c0 _, nb y0 d0 _, nb y1 c1 _, nb y1 d1 _, nb y2 c2 _, nb y2 d2 _, nb (Ext.refl _) c3 _, nb (Ext.refl _) d3 _, Ext.setRow (Ext.trans hE hE2) (Nat.le_refl _) _⟩
end Go.Proofs.YtimecmleaeimkaaDoor
