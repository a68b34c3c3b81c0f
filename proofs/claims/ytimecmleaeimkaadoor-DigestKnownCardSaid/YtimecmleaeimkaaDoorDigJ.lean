/- Package digest: end, New, Check. -/
import Derived.Test.YtimecmleaeimkaaDoorDigI
namespace Go.Proofs.YtimecmleaeimkaaDoor
open Go.RowKit
set_option linter.unusedVariables false
attribute [local go_sem] q32 q64
/-- What stands behind n octets. -/
def endS (n : Nat) : ByteArray := one28 ++ zeroS (finC n) ++ strOfNums (octL (8 * n) 8)
theorem fin_end (s : ByteArray) (n : Nat) (h : s.size % 64 = n % 64) : s ++ endS n = fin s n := by
  unfold endS fin
  rw [show finC n = finC s.size by unfold finC; rw [h], ← ByteArray.append_assoc, ← ByteArray.append_assoc]
theorem endS_size (n : Nat) : (endS n).size = 1 + finC n + 8 := by
  unfold endS
  rw [ByteArray.size_append, ByteArray.size_append, one28_size, zeroS_size, strOfNums_size, octL_length]
theorem octL8 (n : Nat) (hn : n ≤ 1000000) : (#[.int .u8 (8 * (n : Int) % 256), .int .u8 (8 * (n : Int) / 256 % 256), .int .u8 (8 * (n : Int) / 65536), .int .u8 (8 * (n : Int) / 16777216), .int .u8 (8 * (n : Int) / 4294967296), .int .u8 (8 * (n : Int) / 1099511627776), .int .u8 (8 * (n : Int) / 281474976710656), .int .u8 (8 * (n : Int) / 72057594037927936)] : Array Value) =
    ((octL (8 * n) 8).map (Value.int .u8)).toArray := by
  have e : octL (8 * n) 8 = [8 * (n : Int) % 256, 8 * (n : Int) / 256 % 256, 8 * (n : Int) / 65536 % 256, 8 * (n : Int) / 16777216 % 256, 8 * (n : Int) / 4294967296 % 256, 8 * (n : Int) / 1099511627776 % 256, 8 * (n : Int) / 281474976710656 % 256, 8 * (n : Int) / 72057594037927936 % 256] := by
    simp [octL]
  rw [e, show 8 * (n : Int) / 65536 % 256 = 8 * (n : Int) / 65536 by omega, show 8 * (n : Int) / 16777216 % 256 = 8 * (n : Int) / 16777216 by omega, show 8 * (n : Int) / 4294967296 % 256 = 8 * (n : Int) / 4294967296 by omega, show 8 * (n : Int) / 1099511627776 % 256 = 8 * (n : Int) / 1099511627776 by omega, show 8 * (n : Int) / 281474976710656 % 256 = 8 * (n : Int) / 281474976710656 by omega, show 8 * (n : Int) / 72057594037927936 % 256 = 8 * (n : Int) / 72057594037927936 by omega]
  rfl
theorem conv_row8 (w : World) (x : Int) (g : Nat) (h : w.heap[g]? = some (.cells ((octL x 8).map (Value.int .u8)).toArray 5 (0, 0))) :
    (convert 34 9 (.slice (some ⟨g, 0, none⟩) 8 8)).run Tryd.prog w = .ok (.string (strOfNums (octL x 8))) w := by
  refine run_convert_bytes_arg _ 34 5 Tryd.underlying34 Tryd.underlying5 g 0 8 8 (octL x 8) (octL_length x 8) (fun i hi => ?_) 9 Tryd.underlying9
  rw [Nat.zero_add]
  refine row_cell h ?_
  rw [List.getElem?_toArray, List.getElem?_map, List.getElem?_eq_getElem (by rw [octL_length]; omega), List.getD_eq_getElem?_getD, List.getElem?_eq_getElem (by rw [octL_length]; omega)]
  rfl
set_option maxHeartbeats 1000000 in
set_option maxRecDepth 100000 in
theorem endP_c (n : Nat) (hn : n ≤ 1000000) (w : World) : Calls Tryd.prog 55 #[.int .i64 n] w (Ret w (.string (endS n))) := by
  have hmk : ∀ w, (Instr.makeSlice 34 (.int .i64 8) (.int .i64 8)).run Tryd.prog w = .ok (.slice (some ⟨w.heap.size, 0, none⟩) 8 8) (w.alloc (.cells #[.int .u8 0, .int .u8 0, .int .u8 0, .int .u8 0, .int .u8 0, .int .u8 0, .int .u8 0, .int .u8 0] 5)) := fun _ => by kernel_rfl
  go_enter Tryd.func55, Tryd.ntmps55
  go_wp2
  refine wp_loop_rounds 9 ?_
  rw [rounds_succ]; go_wp2
  rw [rounds_succ]; go_wp2
  rw [rounds_succ]; go_wp2
  rw [rounds_succ]; go_wp2
  rw [rounds_succ]; go_wp2
  rw [rounds_succ]; go_wp2
  rw [rounds_succ]; go_wp2
  rw [rounds_succ]; go_wp2
  rw [rounds_succ]; go_wp2
  refine wp_name fun W hW => ?_
  have hE : Ext w W := by rw [hW.out]; exact (by repeat (first | exact Ext.refl _ | assumption | apply Ext.alloc | apply Ext.drew | apply Ext.drewN | apply Ext.bytes | apply Ext.iter | refine Ext.setCell ?_ (by simp; omega) _ | refine Ext.trans ?_ (by assumption)))
  have hrow : W.heap[w.heap.size]? = some (.cells ((octL (8 * n) 8).map (Value.int .u8)).toArray 5 (0, 0)) := by rw [hW.out, ← octL8 n hn]; exact heap_alloc_new _ _
  have hcv : ∀ w', Ext W w' → (convert 34 9 (.slice (some ⟨w.heap.size, 0, none⟩) 8 8)).run Tryd.prog w' = .ok (.string (strOfNums (octL (8 * n) 8))) w' := fun w' h => conv_row8 w' _ _ (Ext.blk h hrow)
  have hfin := Hd.mk (show endS n = one28 ++ zeroS (finC n) ++ strOfNums (octL (8 * n) 8) from rfl)
  obtain ⟨T, eT⟩ : ∃ T, strOfNums (octL (8 * n) 8) = T := ⟨_, rfl⟩
  have hTs : T.size = 8 := by rw [← eT, strOfNums_size, octL_length]
  rw [eT] at hcv hfin
  have h1 := one28_size
  have e128 : one28 = ⟨#[128]⟩ := rfl
  rw [e128] at h1 hfin
  obtain ⟨m, em⟩ : ∃ m, n % 64 = m := ⟨_, rfl⟩
  obtain ⟨d, ed⟩ : ∃ d, 119 - m = d := ⟨_, rfl⟩
  obtain ⟨c, ec⟩ : ∃ c, finC n = c := ⟨_, rfl⟩
  have ec' : d % 64 = c := by rw [← ec, ← ed, ← em]; rfl
  have q1 : (n : Int).tmod 64 = (m : Int) := by rw [Int.tmod_eq_emod_of_nonneg (by omega)]; omega
  have q2 : IntKind.i64.wrap (119 - (m : Int)) = (d : Int) := by rw [IntWalk.i64_in _ (by omega)]; omega
  have q3 : (d : Int).tmod 64 = (c : Int) := by rw [Int.tmod_eq_emod_of_nonneg (by omega)]; omega
  rw [ec] at hfin
  have HR := Hd.mk (Repeat0_c (c : Int) (by omega) (by omega))
  simp only [Int.toNat_natCast] at HR
  have hz := zeroS_size c
  generalize zeroS c = z at *
  have hc64 : c < 64 := by omega
  have hle1 : (⟨#[128]⟩ : ByteArray).size + z.size ≤ 9223372036854775807 := by omega
  have hle2 : ((⟨#[128]⟩ : ByteArray) ++ z).size + T.size ≤ 9223372036854775807 := by rw [ByteArray.size_append]; omega
  have hle3 : ¬ 9223372036854775807 < 1 + z.size := by omega
  have hle4 : ¬ 9223372036854775807 < 1 + z.size + T.size := by omega
  clear eT em ed ec ec' hrow hW hmk hTs h1 hz e128
  refine wp_region_x (fun w' => Ext W w') false (by kernel_rfl) (by kernel_rfl) (by exact Ext.drew (Ext.refl _)) ?_
  (repeat (first
     | (refine wpX_skip rfl ?_; (try simp only [Act.put, List.setIfInBounds_toArray, List.set_cons_zero, List.set_cons_succ]))
     | (apply wpX_still; exact rfl; exact rfl; (rintro w' hw'; go_simp; first | done | exact rfl); (try simp only [Act.put, List.setIfInBounds_toArray, List.set_cons_zero, List.set_cons_succ]))))
  (refine wpX_busy rfl rfl ?_; go_simp; go_at_call 28; refine (HR.out _).mono ?_; rintro e wb ⟨rfl, hb⟩; refine ⟨_, rfl, (by repeat (first | exact Ext.refl _ | assumption | apply Ext.alloc | apply Ext.drew | apply Ext.drewN | apply Ext.bytes | apply Ext.iter | refine Ext.setCell ?_ (by simp; omega) _ | refine Ext.trans ?_ (by assumption))), ?_⟩; (try simp only [Act.put, List.setIfInBounds_toArray, List.set_cons_zero, List.set_cons_succ]))
  (repeat (first
     | (refine wpX_skip rfl ?_; (try simp only [Act.put, List.setIfInBounds_toArray, List.set_cons_zero, List.set_cons_succ]))
     | (apply wpX_still; exact rfl; exact rfl; (rintro w' hw'; go_simp; first | done | exact rfl); (try simp only [Act.put, List.setIfInBounds_toArray, List.set_cons_zero, List.set_cons_succ]))))
  refine wpX_end ?_
  go_wp2
  go_ret
  exact ⟨by rw [hfin.out]; rfl, (by repeat (first | exact Ext.refl _ | assumption | apply Ext.alloc | apply Ext.drew | apply Ext.drewN | apply Ext.bytes | apply Ext.iter | refine Ext.setCell ?_ (by simp; omega) _ | refine Ext.trans ?_ (by assumption)))⟩
end Go.Proofs.YtimecmleaeimkaaDoor
