/- Bend: a digest in progress with a change. -/
import Derived.Test.YtimecmleaeimkaaDoorDigPl
import Derived.Deep.Heap
namespace Go.Proofs.YtimecmleaeimkaaDoor
open Go.RowKit
open Go.Deep (blk_setCell_other)
set_option linter.unusedVariables false


def setQ (x : Q4) (i : Nat) (v : Int) : Q4 := if i = 0 then ⟨v, x.b, x.c, x.d⟩ else if i = 1 then ⟨x.a, v, x.c, x.d⟩ else if i = 2 then ⟨x.a, x.b, v, x.d⟩ else ⟨x.a, x.b, x.c, v⟩
/-- Some octets x, by a number taken without its sign. -/
def manyX (n : Int) : Nat := (n % 18446744073709551616 % 66).toNat
def bendS (what at_ : Nat) (n : Int) (d : Dg) : Dg :=
  if what % 4 = 0 then ⟨setQ d.x (at_ % 4) n, d.l, d.r⟩ else if what % 4 = 1 then ⟨d.x, n, d.r⟩ else if what % 4 = 2 then ⟨d.x, d.l, repS ⟨#[120]⟩ (manyX n)⟩ else d
set_option maxHeartbeats 2000000 in
set_option maxRecDepth 100000 in
theorem bend0_c (what at_ : Nat) (hw : what % 4 = 0) (n : Int) (d : Dg) (w : World) :
    Calls Tryd.prog 22 #[.agg #[.int .u8 what, .int .u8 at_, .int .i64 n], d.v] w (Ret w (bendS what at_ n d).v) := by
  obtain ⟨⟨a, b, c, e⟩, l, r⟩ := d
  have q0 : (what : Int).tmod 4 = 0 := by rw [Int.tmod_eq_emod_of_nonneg (by omega)]; omega
  obtain ⟨k, ek⟩ : ∃ k, at_ % 4 = k := ⟨_, rfl⟩
  have q1 : (at_ : Int).tmod 4 = (k : Int) := by rw [Int.tmod_eq_emod_of_nonneg (by omega)]; omega
  have hk : k < 4 := by omega
  unfold Dg.v dgV dgL
  unfold bendS
  rw [if_pos hw, ek]
  simp only
  clear ek hw
  match k, hk with
  | 0, _ | 1, _ | 2, _ | 3, _ =>
    unfold setQ
    simp only [if_true]
    go_enter Tryd.func22, Tryd.ntmps22
    go_wp2
    refine bodyPost_ret (results_cell_row Tryd.results22 _ _ _ _ _ _ _ rfl (heap_alloc_at (by simp)) Tryd.underlying41 rfl (by kernel_rfl)) rfl ?_
    exact ⟨rfl, (by repeat (first | exact Ext.refl _ | assumption | apply Ext.alloc | apply Ext.drew | apply Ext.drewN | apply Ext.bytes | apply Ext.iter | refine Ext.setCell ?_ (by simp; omega) _ | refine Ext.trans ?_ (by assumption)))⟩
set_option maxHeartbeats 2000000 in
set_option maxRecDepth 100000 in
theorem bend_c (what at_ : Nat) (n : Int) (d : Dg) (w : World) :
    Calls Tryd.prog 22 #[.agg #[.int .u8 what, .int .u8 at_, .int .i64 n], d.v] w (Ret w (bendS what at_ n d).v) := by
  by_cases h0 : what % 4 = 0
  · exact bend0_c what at_ h0 n d w
  obtain ⟨⟨a, b, c, e⟩, l, r⟩ := d
  obtain ⟨k, ek⟩ : ∃ k, what % 4 = k := ⟨_, rfl⟩
  have q0 : (what : Int).tmod 4 = (k : Int) := by rw [Int.tmod_eq_emod_of_nonneg (by omega)]; omega
  have hk : k < 4 := by omega
  unfold bendS
  rw [if_neg h0, ek]
  rw [ek] at h0
  clear ek
  match k, hk with
  | 0, _ => exact absurd rfl h0
  | 1, _ =>
    unfold Dg.v dgV dgL
    rw [if_pos rfl]
    go_enter Tryd.func22, Tryd.ntmps22
    go_wp2
    refine bodyPost_ret (results_cell_row Tryd.results22 _ _ _ _ _ _ _ rfl (heap_alloc_at (by simp)) Tryd.underlying41 rfl (by kernel_rfl)) rfl ?_
    exact ⟨rfl, (by repeat (first | exact Ext.refl _ | assumption | apply Ext.alloc | apply Ext.drew | apply Ext.drewN | apply Ext.bytes | apply Ext.iter | refine Ext.setCell ?_ (by simp; omega) _ | refine Ext.trans ?_ (by assumption)))⟩
  | 3, _ =>
    unfold Dg.v dgV dgL
    rw [if_neg (by decide), if_neg (by decide)]
    go_enter Tryd.func22, Tryd.ntmps22
    go_wp2
    refine bodyPost_ret (results_cell_row Tryd.results22 _ _ _ _ _ _ _ rfl (heap_alloc_at (by simp)) Tryd.underlying41 rfl (by kernel_rfl)) rfl ?_
    exact ⟨rfl, (by repeat (first | exact Ext.refl _ | assumption | apply Ext.alloc | apply Ext.drew | apply Ext.drewN | apply Ext.bytes | apply Ext.iter | refine Ext.setCell ?_ (by simp; omega) _ | refine Ext.trans ?_ (by assumption)))⟩
  | 2, _ =>
    unfold Dg.v dgV dgL
    rw [if_neg (by decide), if_pos rfl]
    have hR := fun w => Tryd.strings_Repeat ⟨#[120]⟩ (manyX n) w (by unfold manyX; omega) (by unfold manyX; show 1 * _ ≤ _; omega)
    change ∀ w, Calls _ _ _ w fun e w' => e = .returned (.string (repS ⟨#[120]⟩ (manyX n))) ∧ Ext w w' at hR
    generalize repS ⟨#[120]⟩ (manyX n) = X at *
    have HR := Hd.mk hR
    have hq : wrap64 ((IntKind.u64.wrap n).tmod 66) = (manyX n : Int) := by
      rw [IntKind.wrap_u64, Int.tmod_eq_emod_of_nonneg (by omega)]
      unfold manyX wrap64
      omega
    clear hR
    go_enter Tryd.func22, Tryd.ntmps22
    go_wp2_with (first | (go_at_call 28; refine (HR.out _).mono ?_; rintro e w1 ⟨rfl, hb⟩; have hr1 := Hd.mk (Ext.blk hb (show _ = some (Obj.cells #[.int .i64 a, .int .i64 b, .int .i64 c, .int .i64 e, .int .i64 l, .string r] 41 (0, 0)) from heap_alloc_next (heap_alloc_at (g := w.heap.size + 1) (by simp)))); have hc1 := row_cell (j := 5) hr1.out rfl; have hf1 := row_frozen hr1.out 5; have hr2 := Hd.mk (setCell_row (j := 5) hr1.out (.string X)); have hg1 := Hd.mk (Ext.blk hb (show _ = some (Obj.cells #[.int .i64 0, .int .i64 0, .int .i64 0, .int .i64 0, .int .i64 0, .string ⟨#[]⟩] 41 (0, 0)) from heap_alloc_at (g := w.heap.size + 1 + 1) (by simp))); have hg2 := Hd.mk ((blk_setCell_other w1 ⟨w.heap.size + 1, 5, none⟩ (.string X) (w.heap.size + 1 + 1) (by simp)).trans hg1.out); have hg3 := Hd.mk (setRow_heap _ _ _ (dgL ⟨a, b, c, e⟩ l X) _ _ hg2.out)) | (refine wpList_load_row rfl _ _ rfl (w.heap.size + 1) rfl _ (dgL ⟨a, b, c, e⟩ l X) (0, 0) _ hr2.out Tryd.underlying41 rfl (by kernel_rfl) ?_) | (refine wpList_store_row rfl _ _ _ rfl (w.heap.size + 1 + 1) (dgL ⟨a, b, c, e⟩ l X) rfl rfl _ _ hg2.out (by kernel_rfl) rfl (dgL_one _ _ _) ?_))
    refine bodyPost_ret (results_cell_row Tryd.results22 _ _ _ _ _ _ _ rfl hg3.out Tryd.underlying41 rfl (by kernel_rfl)) rfl ?_
    exact ⟨rfl, Ext.setRow (Ext.setCell (Ext.trans (by repeat (first | exact Ext.refl _ | assumption | apply Ext.alloc | apply Ext.drew | apply Ext.drewN | apply Ext.bytes | apply Ext.iter | refine Ext.setCell ?_ (by simp; omega) _ | refine Ext.trans ?_ (by assumption))) hb) (by simp) _) (by omega) _⟩
end Go.Proofs.YtimecmleaeimkaaDoor
