/- The reference's steps: not, rotate, step, constants. -/
import Derived.Test.YtimecmleaeimkaaDoorDigM
namespace Go.Proofs.YtimecmleaeimkaaDoor
open Go.RowKit
set_option linter.unusedVariables false

theorem wraps_i64 (n : Int) (h₀ : 0 ≤ n) (h₁ : n < 2 ^ 32) : IntKind.i64.wrap n = n := IntWalk.i64_in _ (by omega)
theorem i64_iand {a b : Int} (ha : U a) (hb : U b) : bits .and .i64 a b = iand a b := by
  unfold U iand at *
  have h := (bits_nat .i64 32 (by decide) wraps_i64 a.toNat b.toNat (by omega) (by omega)).1
  rwa [Int.toNat_of_nonneg ha.1, Int.toNat_of_nonneg hb.1] at h
theorem i64_ior {a b : Int} (ha : U a) (hb : U b) : bits .or .i64 a b = ior a b := by
  unfold U ior at *
  have h := (bits_nat .i64 32 (by decide) wraps_i64 a.toNat b.toNat (by omega) (by omega)).2
  rwa [Int.toNat_of_nonneg ha.1, Int.toNat_of_nonneg hb.1] at h
theorem ofInt_i64 (a : Nat) (ha : a < 4294967296) : (BitVec.ofInt 64 (a : Int)).toNat = a := by
  rw [BitVec.ofInt_natCast, BitVec.toNat_ofNat]; exact Nat.mod_eq_of_lt (by omega)
theorem i64_ixor_nat (a b : Nat) (ha : a < 4294967296) (hb : b < 4294967296) : bits .xor .i64 (a : Int) (b : Int) = ((a ^^^ b : Nat) : Int) := by
  have hx : a ^^^ b < 2 ^ 32 := Nat.xor_lt_two_pow (by omega) (by omega)
  show IntKind.i64.wrap ((BitVec.ofInt 64 (a : Int) ^^^ BitVec.ofInt 64 (b : Int)).toNat : Int) = _
  rw [BitVec.toNat_xor, ofInt_i64 a ha, ofInt_i64 b hb]
  exact IntWalk.i64_in _ (by omega)
theorem i64_ixor {a b : Int} (ha : U a) (hb : U b) : bits .xor .i64 a b = ixor a b := by
  unfold U ixor at *
  have h := i64_ixor_nat a.toNat b.toNat (by omega) (by omega)
  rwa [Int.toNat_of_nonneg ha.1, Int.toNat_of_nonneg hb.1] at h

set_option maxHeartbeats 400000 in
theorem not_c (a : Int) (ha : U a) (w : World) : Calls Tryd.prog 122 #[.int .i64 a] w (Ret w (.int .i64 (inot a))) := by
  unfold U at ha
  have h1 : IntKind.i64.wrap (4294967295 - a) = inot a := by unfold inot; exact IntWalk.i64_in _ (by omega)
  go_enter Tryd.func122, Tryd.ntmps122
  go_wp2
  go_ret
  exact ⟨rfl, (by repeat (first | exact Ext.refl _ | assumption | apply Ext.alloc | apply Ext.drew | apply Ext.drewN | apply Ext.bytes | apply Ext.iter | refine Ext.setCell ?_ (by simp; omega) _ | refine Ext.trans ?_ (by assumption)))⟩
def byS (s : Int) : Prop := s = 4 ∨ s = 5 ∨ s = 6 ∨ s = 7 ∨ s = 9 ∨ s = 10 ∨ s = 11 ∨ s = 12 ∨ s = 14 ∨ s = 15 ∨ s = 16 ∨ s = 17 ∨ s = 20 ∨ s = 21 ∨ s = 22 ∨ s = 23
theorem byT_S (i : Nat) (h : i < 64) : byS (byT i) := by
  have : ∀ i : Fin 64, (fun s : Int => s = 4 ∨ s = 5 ∨ s = 6 ∨ s = 7 ∨ s = 9 ∨ s = 10 ∨ s = 11 ∨ s = 12 ∨ s = 14 ∨ s = 15 ∨ s = 16 ∨ s = 17 ∨ s = 20 ∨ s = 21 ∨ s = 22 ∨ s = 23) (byT i.1) := by decide +kernel
  exact this ⟨i, h⟩
theorem rotP_c (x s : Int) (hx : U x) (hs : byS s) (w : World) : Calls Tryd.prog 89 #[.int .u32 x, .int .i64 s] w (Ret w (.int .u32 (rotl x s))) := rot_c x s hx hs w
theorem ret_int {k : IntKind} {a b : Int} (h : a = b) : Ending.returned (.int k a) = .returned (.int k b) := by rw [h]
theorem rotR_eq (x p q : Int) (hx : U x) (hp : 0 ≤ p ∧ p ≤ 8388608) (hq : 0 < q) (r : Int) (hs : r = x * p % 4294967296 + x / q) :
    IntKind.i64.wrap ((IntKind.i64.wrap (x * p)).tmod 4294967296 + x.fdiv q) = r := by
  unfold U at hx
  have b1 : 0 ≤ x * p := Int.mul_nonneg hx.1 hp.1
  have b2 : x * p ≤ 4294967295 * 8388608 := Int.mul_le_mul (by omega) hp.2 hp.1 (by omega)
  have b3 : 0 ≤ x / q := Int.ediv_nonneg hx.1 (by omega)
  have b4 : x / q ≤ x := Int.ediv_le_self _ hx.1
  rw [IntWalk.i64_in (x * p) (by omega), Int.tmod_eq_emod_of_nonneg b1, Int.fdiv_eq_ediv_of_nonneg _ (by omega), hs]
  exact IntWalk.i64_in _ (by omega)
set_option maxHeartbeats 4000000 in
theorem rotR_c (x s : Int) (hx : U x) (hs : byS s) (w : World) : Calls Tryd.prog 108 #[.int .i64 x, .int .i64 s] w (Ret w (.int .i64 (rotl x s))) := by
  unfold byS at hs
  rcases hs with rfl | rfl | rfl | rfl | rfl | rfl | rfl | rfl | rfl | rfl | rfl | rfl | rfl | rfl | rfl | rfl
  all_goals
    go_enter Tryd.func108, Tryd.ntmps108
    go_wp2
    (refine wp_region_seq (AnyW) (by kernel_rfl) (by kernel_rfl) (by kernel_rfl) (by exact trivial) ?_
     repeat (first
       | (refine wpSeq_skip rfl ?_; (try simp only [Act.put, List.setIfInBounds_toArray, List.set_cons_zero, List.set_cons_succ]))
       | (apply wpSeq_still; exact rfl; exact rfl; (intro w' hw'; go_simp; first | done | exact rfl); (try simp only [Act.put, List.setIfInBounds_toArray, List.set_cons_zero, List.set_cons_succ]))
       | (refine wpSeq_busy rfl rfl ?_; go_simp; first | ((fail); refine ⟨_, rfl, (by exact trivial), ?_⟩) | refine ⟨(by exact trivial), ?_⟩; (try simp only [Act.put, List.setIfInBounds_toArray, List.set_cons_zero, List.set_cons_succ])))
     refine wpSeq_nil (fun hq => ?_))
    go_wp2
    go_ret
    exact ⟨ret_int (rotR_eq x _ _ hx (by decide) (by decide) _ (by unfold rotl; rfl)), (by repeat (first | exact Ext.refl _ | assumption | apply Ext.alloc | apply Ext.drew | apply Ext.drewN | apply Ext.bytes | apply Ext.iter | refine Ext.setCell ?_ (by simp; omega) _ | refine Ext.trans ?_ (by assumption)))⟩

set_option maxHeartbeats 4000000 in
theorem stepR_c (i : Nat) (hi : i < 64) (b c d : Int) (hb : U b) (hc : U c) (hd : U d) (w : World) : Calls Tryd.prog 107 #[.int .i64 i, .int .i64 b, .int .i64 c, .int .i64 d] w (Ret w (.tuple #[.int .i64 (Fi i b c d), .int .i64 (wi i)])) := by
  by_cases h1 : i < 16
  · have e1 : Fi i b c d = ior (iand b c) (iand (inot b) d) := by unfold Fi F0; rw [if_pos h1]
    have e2 : wi i = i := by unfold wi; rw [if_pos h1]
    rw [e1, e2]
    have q1 := i64_iand hb hc
    have q2 := i64_iand (inot_U hb) hd
    have q3 := i64_ior (iand_U hc (a := b)) (iand_U hd (a := inot b))
    have hlt : (i : Int) < 16 := by omega
    go_enter Tryd.func107, Tryd.ntmps107
    go_wp2_with (go_at_call 122; refine (not_c _ hb _).mono ?_; rintro e w1 ⟨rfl, hb⟩)
    go_ret2
    exact ⟨rfl, (by repeat (first | exact Ext.refl _ | assumption | apply Ext.alloc | apply Ext.drew | apply Ext.drewN | apply Ext.bytes | apply Ext.iter | refine Ext.setCell ?_ (by simp; omega) _ | refine Ext.trans ?_ (by assumption)))⟩
  by_cases h2 : i < 32
  · have e1 : Fi i b c d = ior (iand d b) (iand (inot d) c) := by unfold Fi F1 F0; rw [if_neg h1, if_pos h2]
    have e2 : ((wi i : Nat) : Int) = (5 * (i : Int) + 1) % 16 := by unfold wi; rw [if_neg h1, if_pos h2]; omega
    rw [e1, e2]
    have q1 := i64_iand hd hb
    have q2 := i64_iand (inot_U hd) hc
    have q3 := i64_ior (iand_U hb (a := d)) (iand_U hc (a := inot d))
    have hlt : (16 : Int) ≤ i := by omega
    have hlt2 : (i : Int) < 32 := by omega
    go_enter Tryd.func107, Tryd.ntmps107
    go_wp2_with (go_at_call 122; refine (not_c _ hd _).mono ?_; rintro e w1 ⟨rfl, hb⟩)
    go_ret2
    exact ⟨rfl, (by repeat (first | exact Ext.refl _ | assumption | apply Ext.alloc | apply Ext.drew | apply Ext.drewN | apply Ext.bytes | apply Ext.iter | refine Ext.setCell ?_ (by simp; omega) _ | refine Ext.trans ?_ (by assumption)))⟩
  by_cases h3 : i < 48
  · have e1 : Fi i b c d = ixor (ixor b c) d := by unfold Fi F2; rw [if_neg h1, if_neg h2, if_pos h3]
    have e2 : ((wi i : Nat) : Int) = (3 * (i : Int) + 5) % 16 := by unfold wi; rw [if_neg h1, if_neg h2, if_pos h3]; omega
    rw [e1, e2]
    have q1 := i64_ixor hb hc
    have q2 := i64_ixor (ixor_U hb hc) hd
    have hlt : (32 : Int) ≤ i := by omega
    have hlt2 : (i : Int) < 48 := by omega
    go_enter Tryd.func107, Tryd.ntmps107
    go_wp2
    go_ret2
    exact ⟨rfl, (by repeat (first | exact Ext.refl _ | assumption | apply Ext.alloc | apply Ext.drew | apply Ext.drewN | apply Ext.bytes | apply Ext.iter | refine Ext.setCell ?_ (by simp; omega) _ | refine Ext.trans ?_ (by assumption)))⟩
  · have e1 : Fi i b c d = ixor c (ior b (inot d)) := by unfold Fi F3; rw [if_neg h1, if_neg h2, if_neg h3]
    have e2 : ((wi i : Nat) : Int) = (7 * (i : Int)) % 16 := by unfold wi; rw [if_neg h1, if_neg h2, if_neg h3]; omega
    rw [e1, e2]
    have q1 := i64_ior hb (inot_U hd)
    have q2 := i64_ixor hc (ior_U hb (inot_U hd))
    have hlt : (48 : Int) ≤ i := by omega
    have hlt2 : (i : Int) < 64 := by omega
    go_enter Tryd.func107, Tryd.ntmps107
    go_wp2_with (go_at_call 122; refine (not_c _ hd _).mono ?_; rintro e w1 ⟨rfl, hb⟩)
    go_ret2
    exact ⟨rfl, (by repeat (first | exact Ext.refl _ | assumption | apply Ext.alloc | apply Ext.drew | apply Ext.drewN | apply Ext.bytes | apply Ext.iter | refine Ext.setCell ?_ (by simp; omega) _ | refine Ext.trans ?_ (by assumption)))⟩

set_option maxHeartbeats 1000000 in
set_option maxRecDepth 100000 in
theorem constantsR_c (w : World) : Calls Tryd.prog 106 #[] w (Ret w (.agg (kcells .i64))) := by
  go_enter Tryd.func106, Tryd.ntmps106
  go_upto_region 1 with fail
  refine wp_name fun W1 hW1 => ?_
  have hE : Ext w W1 := by rw [hW1.out]; exact (by repeat (first | exact Ext.refl _ | assumption | apply Ext.alloc | apply Ext.drew | apply Ext.drewN | apply Ext.bytes | apply Ext.iter | refine Ext.setCell ?_ (by simp; omega) _ | refine Ext.trans ?_ (by assumption)))
  obtain ⟨old, hold, hos⟩ : ∃ old, W1.heap[w.heap.size]? = some (.cells old 149 (0, 0)) ∧ old.size = 64 := by rw [hW1.out]; exact ⟨_, heap_alloc_new _ _, by rfl⟩
  clear hW1
  refine wp_region_lit ?_
  refine wpList_build rfl _ _ rfl (by kernel_rfl) ?_
  refine wpList_store_row rfl _ _ _ rfl w.heap.size (kcells .i64) rfl (by kernel_rfl) _ _ hold (by kernel_rfl) (by rw [hos]; kernel_rfl) (by kernel_rfl) ?_
  refine wpList_nil ?_
  go_wp2
  refine bodyPost_ret (results_cell_row Tryd.results106 _ _ w.heap.size _ _ _ _ rfl (setRow_heap _ _ _ _ _ _ hold) Tryd.underlying149 rfl (by kernel_rfl)) rfl ?_
  exact ⟨rfl, Ext.setRow hE (Nat.le_refl _) _⟩
end Go.Proofs.YtimecmleaeimkaaDoor
