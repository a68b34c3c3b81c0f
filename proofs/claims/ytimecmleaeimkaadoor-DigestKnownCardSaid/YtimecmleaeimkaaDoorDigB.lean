/- Four numbers of sixteen octets. -/
import Derived.Test.YtimecmleaeimkaaDoorDigK
import Derived.Test.YtimecmleaeimkaaDoorOct
namespace Go.Proofs.YtimecmleaeimkaaDoor
open Go.RowKit
set_option linter.unusedVariables false
attribute [local go_sem] q32 q64
def AnyW (w : World) : Prop := True
def rd (s : ByteArray) (k : Nat) : Int := byteAt s k + byteAt s (k + 1) * 256 + byteAt s (k + 2) * 65536 + byteAt s (k + 3) * 16777216
theorem rd_U (s : ByteArray) (k : Nat) : U (rd s k) := by
  have h0 := byteAt_bd s k
  have h1 := byteAt_bd s (k + 1)
  have h2 := byteAt_bd s (k + 2)
  have h3 := byteAt_bd s (k + 3)
  unfold U rd; omega
theorem run_byte (s : ByteArray) (k : Nat) (h : k < s.size) (w : World) : (Instr.index 9 (.string s) (.int .i64 k)).run Tryd.prog w = .ok (.int .u8 (byteAt s k)) w := by
  have h0 : (k : Int).toNat = k := by omega
  have h1 : ¬ (k : Int) < 0 := by omega
  rw [← byteAt_eq s k h]
  have h2 : (k : Int) < s.size := by omega
  go_simp
theorem word_of (b0 b1 b2 b3 : Int) (h0 : 0 ≤ b0 ∧ b0 < 256) (h1 : 0 ≤ b1 ∧ b1 < 256) (h2 : 0 ≤ b2 ∧ b2 < 256) (h3 : 0 ≤ b3 ∧ b3 < 256) :
    bits .or .u32 (bits .or .u32 (bits .or .u32 b0 (IntKind.u32.wrap (b1 * 256))) (IntKind.u32.wrap (b2 * 65536))) (IntKind.u32.wrap (b3 * 16777216)) = b0 + b1 * 256 + b2 * 65536 + b3 * 16777216 := by
  rw [IntKind.wrap_u32, IntKind.wrap_u32, IntKind.wrap_u32]
  have e1 := u32_or8 b0 (b1 * 256 % 4294967296) h0.1 h0.2 (by omega) (by omega) (by omega)
  have e2 := u32_or16 (b0 + b1 * 256 % 4294967296) (b2 * 65536 % 4294967296) (by omega) (by omega) (by omega) (by omega) (by omega)
  have e3 := u32_or24 (b0 + b1 * 256 % 4294967296 + b2 * 65536 % 4294967296) (b3 * 16777216 % 4294967296) (by omega) (by omega) (by omega) (by omega) (by omega)
  rw [e1, e2, e3]
  omega
set_option maxHeartbeats 4000000 in
set_option maxRecDepth 100000 in
theorem read_c (s : ByteArray) (h : 16 ≤ s.size) (w : World) : Calls Tryd.prog 51 #[.string s] w (Ret w (q32 (rd s 0) (rd s 4) (rd s 8) (rd s 12))) := by
  have x0 : ∀ w, (Instr.index 9 (.string s) (.int .i64 0)).run Tryd.prog w = .ok (.int .u8 (byteAt s 0)) w := fun w => run_byte s 0 (by omega) w
  have k0 := byteAt_bd s 0
  obtain ⟨b0, e0⟩ : ∃ b, byteAt s 0 = b := ⟨_, rfl⟩
  rw [e0] at k0
  simp only [e0] at x0
  have u0 : IntKind.u32.wrap b0 = b0 := IntWalk.u32_in _ (by omega)
  have x1 : ∀ w, (Instr.index 9 (.string s) (.int .i64 1)).run Tryd.prog w = .ok (.int .u8 (byteAt s 1)) w := fun w => run_byte s 1 (by omega) w
  have k1 := byteAt_bd s 1
  obtain ⟨b1, e1⟩ : ∃ b, byteAt s 1 = b := ⟨_, rfl⟩
  rw [e1] at k1
  simp only [e1] at x1
  have u1 : IntKind.u32.wrap b1 = b1 := IntWalk.u32_in _ (by omega)
  have x2 : ∀ w, (Instr.index 9 (.string s) (.int .i64 2)).run Tryd.prog w = .ok (.int .u8 (byteAt s 2)) w := fun w => run_byte s 2 (by omega) w
  have k2 := byteAt_bd s 2
  obtain ⟨b2, e2⟩ : ∃ b, byteAt s 2 = b := ⟨_, rfl⟩
  rw [e2] at k2
  simp only [e2] at x2
  have u2 : IntKind.u32.wrap b2 = b2 := IntWalk.u32_in _ (by omega)
  have x3 : ∀ w, (Instr.index 9 (.string s) (.int .i64 3)).run Tryd.prog w = .ok (.int .u8 (byteAt s 3)) w := fun w => run_byte s 3 (by omega) w
  have k3 := byteAt_bd s 3
  obtain ⟨b3, e3⟩ : ∃ b, byteAt s 3 = b := ⟨_, rfl⟩
  rw [e3] at k3
  simp only [e3] at x3
  have u3 : IntKind.u32.wrap b3 = b3 := IntWalk.u32_in _ (by omega)
  have x4 : ∀ w, (Instr.index 9 (.string s) (.int .i64 4)).run Tryd.prog w = .ok (.int .u8 (byteAt s 4)) w := fun w => run_byte s 4 (by omega) w
  have k4 := byteAt_bd s 4
  obtain ⟨b4, e4⟩ : ∃ b, byteAt s 4 = b := ⟨_, rfl⟩
  rw [e4] at k4
  simp only [e4] at x4
  have u4 : IntKind.u32.wrap b4 = b4 := IntWalk.u32_in _ (by omega)
  have x5 : ∀ w, (Instr.index 9 (.string s) (.int .i64 5)).run Tryd.prog w = .ok (.int .u8 (byteAt s 5)) w := fun w => run_byte s 5 (by omega) w
  have k5 := byteAt_bd s 5
  obtain ⟨b5, e5⟩ : ∃ b, byteAt s 5 = b := ⟨_, rfl⟩
  rw [e5] at k5
  simp only [e5] at x5
  have u5 : IntKind.u32.wrap b5 = b5 := IntWalk.u32_in _ (by omega)
  have x6 : ∀ w, (Instr.index 9 (.string s) (.int .i64 6)).run Tryd.prog w = .ok (.int .u8 (byteAt s 6)) w := fun w => run_byte s 6 (by omega) w
  have k6 := byteAt_bd s 6
  obtain ⟨b6, e6⟩ : ∃ b, byteAt s 6 = b := ⟨_, rfl⟩
  rw [e6] at k6
  simp only [e6] at x6
  have u6 : IntKind.u32.wrap b6 = b6 := IntWalk.u32_in _ (by omega)
  have x7 : ∀ w, (Instr.index 9 (.string s) (.int .i64 7)).run Tryd.prog w = .ok (.int .u8 (byteAt s 7)) w := fun w => run_byte s 7 (by omega) w
  have k7 := byteAt_bd s 7
  obtain ⟨b7, e7⟩ : ∃ b, byteAt s 7 = b := ⟨_, rfl⟩
  rw [e7] at k7
  simp only [e7] at x7
  have u7 : IntKind.u32.wrap b7 = b7 := IntWalk.u32_in _ (by omega)
  have x8 : ∀ w, (Instr.index 9 (.string s) (.int .i64 8)).run Tryd.prog w = .ok (.int .u8 (byteAt s 8)) w := fun w => run_byte s 8 (by omega) w
  have k8 := byteAt_bd s 8
  obtain ⟨b8, e8⟩ : ∃ b, byteAt s 8 = b := ⟨_, rfl⟩
  rw [e8] at k8
  simp only [e8] at x8
  have u8 : IntKind.u32.wrap b8 = b8 := IntWalk.u32_in _ (by omega)
  have x9 : ∀ w, (Instr.index 9 (.string s) (.int .i64 9)).run Tryd.prog w = .ok (.int .u8 (byteAt s 9)) w := fun w => run_byte s 9 (by omega) w
  have k9 := byteAt_bd s 9
  obtain ⟨b9, e9⟩ : ∃ b, byteAt s 9 = b := ⟨_, rfl⟩
  rw [e9] at k9
  simp only [e9] at x9
  have u9 : IntKind.u32.wrap b9 = b9 := IntWalk.u32_in _ (by omega)
  have x10 : ∀ w, (Instr.index 9 (.string s) (.int .i64 10)).run Tryd.prog w = .ok (.int .u8 (byteAt s 10)) w := fun w => run_byte s 10 (by omega) w
  have k10 := byteAt_bd s 10
  obtain ⟨b10, e10⟩ : ∃ b, byteAt s 10 = b := ⟨_, rfl⟩
  rw [e10] at k10
  simp only [e10] at x10
  have u10 : IntKind.u32.wrap b10 = b10 := IntWalk.u32_in _ (by omega)
  have x11 : ∀ w, (Instr.index 9 (.string s) (.int .i64 11)).run Tryd.prog w = .ok (.int .u8 (byteAt s 11)) w := fun w => run_byte s 11 (by omega) w
  have k11 := byteAt_bd s 11
  obtain ⟨b11, e11⟩ : ∃ b, byteAt s 11 = b := ⟨_, rfl⟩
  rw [e11] at k11
  simp only [e11] at x11
  have u11 : IntKind.u32.wrap b11 = b11 := IntWalk.u32_in _ (by omega)
  have x12 : ∀ w, (Instr.index 9 (.string s) (.int .i64 12)).run Tryd.prog w = .ok (.int .u8 (byteAt s 12)) w := fun w => run_byte s 12 (by omega) w
  have k12 := byteAt_bd s 12
  obtain ⟨b12, e12⟩ : ∃ b, byteAt s 12 = b := ⟨_, rfl⟩
  rw [e12] at k12
  simp only [e12] at x12
  have u12 : IntKind.u32.wrap b12 = b12 := IntWalk.u32_in _ (by omega)
  have x13 : ∀ w, (Instr.index 9 (.string s) (.int .i64 13)).run Tryd.prog w = .ok (.int .u8 (byteAt s 13)) w := fun w => run_byte s 13 (by omega) w
  have k13 := byteAt_bd s 13
  obtain ⟨b13, e13⟩ : ∃ b, byteAt s 13 = b := ⟨_, rfl⟩
  rw [e13] at k13
  simp only [e13] at x13
  have u13 : IntKind.u32.wrap b13 = b13 := IntWalk.u32_in _ (by omega)
  have x14 : ∀ w, (Instr.index 9 (.string s) (.int .i64 14)).run Tryd.prog w = .ok (.int .u8 (byteAt s 14)) w := fun w => run_byte s 14 (by omega) w
  have k14 := byteAt_bd s 14
  obtain ⟨b14, e14⟩ : ∃ b, byteAt s 14 = b := ⟨_, rfl⟩
  rw [e14] at k14
  simp only [e14] at x14
  have u14 : IntKind.u32.wrap b14 = b14 := IntWalk.u32_in _ (by omega)
  have x15 : ∀ w, (Instr.index 9 (.string s) (.int .i64 15)).run Tryd.prog w = .ok (.int .u8 (byteAt s 15)) w := fun w => run_byte s 15 (by omega) w
  have k15 := byteAt_bd s 15
  obtain ⟨b15, e15⟩ : ∃ b, byteAt s 15 = b := ⟨_, rfl⟩
  rw [e15] at k15
  simp only [e15] at x15
  have u15 : IntKind.u32.wrap b15 = b15 := IntWalk.u32_in _ (by omega)
  obtain ⟨W0, f0⟩ : ∃ W, b0 + b1 * 256 + b2 * 65536 + b3 * 16777216 = W := ⟨_, rfl⟩
  have v0 := word_of b0 b1 b2 b3 k0 k1 k2 k3
  rw [f0] at v0
  have r0 : rd s 0 = W0 := by unfold rd; rw [e0, e1, e2, e3, f0]
  obtain ⟨W4, f4⟩ : ∃ W, b4 + b5 * 256 + b6 * 65536 + b7 * 16777216 = W := ⟨_, rfl⟩
  have v4 := word_of b4 b5 b6 b7 k4 k5 k6 k7
  rw [f4] at v4
  have r4 : rd s 4 = W4 := by unfold rd; rw [e4, e5, e6, e7, f4]
  obtain ⟨W8, f8⟩ : ∃ W, b8 + b9 * 256 + b10 * 65536 + b11 * 16777216 = W := ⟨_, rfl⟩
  have v8 := word_of b8 b9 b10 b11 k8 k9 k10 k11
  rw [f8] at v8
  have r8 : rd s 8 = W8 := by unfold rd; rw [e8, e9, e10, e11, f8]
  obtain ⟨W12, f12⟩ : ∃ W, b12 + b13 * 256 + b14 * 65536 + b15 * 16777216 = W := ⟨_, rfl⟩
  have v12 := word_of b12 b13 b14 b15 k12 k13 k14 k15
  rw [f12] at v12
  have r12 : rd s 12 = W12 := by unfold rd; rw [e12, e13, e14, e15, f12]
  rw [r0, r4, r8, r12]
  have z0 : IntKind.i64.wrap 0 = 0 := by decide
  have z1 : IntKind.i64.wrap 1 = 1 := by decide
  have z2 : IntKind.i64.wrap 2 = 2 := by decide
  have z3 : IntKind.i64.wrap 3 = 3 := by decide
  have z4 : IntKind.i64.wrap 4 = 4 := by decide
  have z5 : IntKind.i64.wrap 5 = 5 := by decide
  have z6 : IntKind.i64.wrap 6 = 6 := by decide
  have z7 : IntKind.i64.wrap 7 = 7 := by decide
  have z8 : IntKind.i64.wrap 8 = 8 := by decide
  have z9 : IntKind.i64.wrap 9 = 9 := by decide
  have z10 : IntKind.i64.wrap 10 = 10 := by decide
  have z11 : IntKind.i64.wrap 11 = 11 := by decide
  have z12 : IntKind.i64.wrap 12 = 12 := by decide
  have z13 : IntKind.i64.wrap 13 = 13 := by decide
  have z14 : IntKind.i64.wrap 14 = 14 := by decide
  have z15 : IntKind.i64.wrap 15 = 15 := by decide
  go_enter Tryd.func51, Tryd.ntmps51
  go_wp2
  refine wp_loop_rounds 5 ?_
  rw [rounds_succ]; go_wp2
  (refine wp_region_seq (AnyW) (by kernel_rfl) (by kernel_rfl) (by kernel_rfl) (by exact trivial) ?_
   repeat (first
     | (refine wpSeq_skip rfl ?_; (try simp only [Act.put, List.setIfInBounds_toArray, List.set_cons_zero, List.set_cons_succ]))
     | (apply wpSeq_still; exact rfl; exact rfl; (intro w' hw'; go_simp; first | done | exact rfl); (try simp only [Act.put, List.setIfInBounds_toArray, List.set_cons_zero, List.set_cons_succ]))
     | (refine wpSeq_busy rfl rfl ?_; go_simp; first | ((fail); refine ⟨_, rfl, (by exact trivial), ?_⟩) | refine ⟨(by exact trivial), ?_⟩; (try simp only [Act.put, List.setIfInBounds_toArray, List.set_cons_zero, List.set_cons_succ])))
   refine wpSeq_nil (fun hq => ?_))
  go_wp2
  rw [rounds_succ]; go_wp2
  (refine wp_region_seq (AnyW) (by kernel_rfl) (by kernel_rfl) (by kernel_rfl) (by exact trivial) ?_
   repeat (first
     | (refine wpSeq_skip rfl ?_; (try simp only [Act.put, List.setIfInBounds_toArray, List.set_cons_zero, List.set_cons_succ]))
     | (apply wpSeq_still; exact rfl; exact rfl; (intro w' hw'; go_simp; first | done | exact rfl); (try simp only [Act.put, List.setIfInBounds_toArray, List.set_cons_zero, List.set_cons_succ]))
     | (refine wpSeq_busy rfl rfl ?_; go_simp; first | ((fail); refine ⟨_, rfl, (by exact trivial), ?_⟩) | refine ⟨(by exact trivial), ?_⟩; (try simp only [Act.put, List.setIfInBounds_toArray, List.set_cons_zero, List.set_cons_succ])))
   refine wpSeq_nil (fun hq => ?_))
  go_wp2
  rw [rounds_succ]; go_wp2
  (refine wp_region_seq (AnyW) (by kernel_rfl) (by kernel_rfl) (by kernel_rfl) (by exact trivial) ?_
   repeat (first
     | (refine wpSeq_skip rfl ?_; (try simp only [Act.put, List.setIfInBounds_toArray, List.set_cons_zero, List.set_cons_succ]))
     | (apply wpSeq_still; exact rfl; exact rfl; (intro w' hw'; go_simp; first | done | exact rfl); (try simp only [Act.put, List.setIfInBounds_toArray, List.set_cons_zero, List.set_cons_succ]))
     | (refine wpSeq_busy rfl rfl ?_; go_simp; first | ((fail); refine ⟨_, rfl, (by exact trivial), ?_⟩) | refine ⟨(by exact trivial), ?_⟩; (try simp only [Act.put, List.setIfInBounds_toArray, List.set_cons_zero, List.set_cons_succ])))
   refine wpSeq_nil (fun hq => ?_))
  go_wp2
  rw [rounds_succ]; go_wp2
  (refine wp_region_seq (AnyW) (by kernel_rfl) (by kernel_rfl) (by kernel_rfl) (by exact trivial) ?_
   repeat (first
     | (refine wpSeq_skip rfl ?_; (try simp only [Act.put, List.setIfInBounds_toArray, List.set_cons_zero, List.set_cons_succ]))
     | (apply wpSeq_still; exact rfl; exact rfl; (intro w' hw'; go_simp; first | done | exact rfl); (try simp only [Act.put, List.setIfInBounds_toArray, List.set_cons_zero, List.set_cons_succ]))
     | (refine wpSeq_busy rfl rfl ?_; go_simp; first | ((fail); refine ⟨_, rfl, (by exact trivial), ?_⟩) | refine ⟨(by exact trivial), ?_⟩; (try simp only [Act.put, List.setIfInBounds_toArray, List.set_cons_zero, List.set_cons_succ])))
   refine wpSeq_nil (fun hq => ?_))
  go_wp2
  rw [rounds_succ]; go_wp2
  refine bodyPost_ret (v := q32 W0 W4 W8 W12) (by simp [results, Tryd.results51, go_sem]) rfl ⟨rfl, (by repeat (first | exact Ext.refl _ | assumption | apply Ext.alloc | apply Ext.drew | apply Ext.drewN | apply Ext.bytes | apply Ext.iter | refine Ext.setCell ?_ (by simp; omega) _ | refine Ext.trans ?_ (by assumption)))⟩
end Go.Proofs.YtimecmleaeimkaaDoor
