/- The constants of the steps, and a rotation. -/
import Derived.Test.YtimecmleaeimkaaDoorDigF
import Derived.Deep.CutRange
namespace Go.Proofs.YtimecmleaeimkaaDoor
open Go.RowKit
set_option linter.unusedVariables false

def ktab : List Int := [0xd76aa478, 0xe8c7b756, 0x242070db, 0xc1bdceee, 0xf57c0faf, 0x4787c62a, 0xa8304613, 0xfd469501,
  0x698098d8, 0x8b44f7af, 0xffff5bb1, 0x895cd7be, 0x6b901122, 0xfd987193, 0xa679438e, 0x49b40821,
  0xf61e2562, 0xc040b340, 0x265e5a51, 0xe9b6c7aa, 0xd62f105d, 0x02441453, 0xd8a1e681, 0xe7d3fbc8,
  0x21e1cde6, 0xc33707d6, 0xf4d50d87, 0x455a14ed, 0xa9e3e905, 0xfcefa3f8, 0x676f02d9, 0x8d2a4c8a,
  0xfffa3942, 0x8771f681, 0x6d9d6122, 0xfde5380c, 0xa4beea44, 0x4bdecfa9, 0xf6bb4b60, 0xbebfbc70,
  0x289b7ec6, 0xeaa127fa, 0xd4ef3085, 0x04881d05, 0xd9d4d039, 0xe6db99e5, 0x1fa27cf8, 0xc4ac5665,
  0xf4292244, 0x432aff97, 0xab9423a7, 0xfc93a039, 0x655b59c3, 0x8f0ccc92, 0xffeff47d, 0x85845dd1,
  0x6fa87e4f, 0xfe2ce6e0, 0xa3014314, 0x4e0811a1, 0xf7537e82, 0xbd3af235, 0x2ad7d2bb, 0xeb86d391]
def kcells (k : IntKind) : Array Value := (ktab.map (Value.int k)).toArray

set_option maxHeartbeats 1000000 in
set_option maxRecDepth 100000 in
theorem constants_c (w : World) : Calls Tryd.prog 87 #[] w (Ret w (.agg (kcells .u32))) := by
  go_enter Tryd.func87, Tryd.ntmps87
  go_upto_region 1 with fail
  refine wp_name fun W1 hW1 => ?_
  have hE : Ext w W1 := by rw [hW1.out]; exact (by repeat (first | exact Ext.refl _ | assumption | apply Ext.alloc | apply Ext.drew | apply Ext.drewN | apply Ext.bytes | apply Ext.iter | refine Ext.setCell ?_ (by simp; omega) _ | refine Ext.trans ?_ (by assumption)))
  obtain ⟨old, hold, hos⟩ : ∃ old, W1.heap[w.heap.size]? = some (.cells old 124 (0, 0)) ∧ old.size = 64 := by rw [hW1.out]; exact ⟨_, heap_alloc_new _ _, by rfl⟩
  clear hW1
  refine wp_region_lit ?_
  refine wpList_build rfl _ _ rfl (by kernel_rfl) ?_
  refine wpList_store_row rfl _ _ _ rfl w.heap.size (kcells .u32) rfl (by kernel_rfl) _ _ hold (by kernel_rfl) (by rw [hos]; kernel_rfl) (by kernel_rfl) ?_
  refine wpList_nil ?_
  go_wp2
  refine bodyPost_ret (results_cell_row Tryd.results87 _ _ w.heap.size _ _ _ _ rfl (setRow_heap _ _ _ _ _ _ hold) Tryd.underlying124 rfl (by kernel_rfl)) rfl ?_
  exact ⟨rfl, Ext.setRow hE (Nat.le_refl _) _⟩
set_option maxHeartbeats 4000000 in
theorem rot_c (x s : Int) (hx : U x) (hs : s = 4 ∨ s = 5 ∨ s = 6 ∨ s = 7 ∨ s = 9 ∨ s = 10 ∨ s = 11 ∨ s = 12 ∨ s = 14 ∨ s = 15 ∨ s = 16 ∨ s = 17 ∨ s = 20 ∨ s = 21 ∨ s = 22 ∨ s = 23) (w : World) : Calls Tryd.prog 89 #[.int .u32 x, .int .i64 s] w (Ret w (.int .u32 (x * 2 ^ s.toNat % 4294967296 + x / 2 ^ (32 - s.toNat)))) := by
  unfold U at hx
  have hu : ∀ n, IntKind.u32.wrap n = n % 4294967296 := IntKind.wrap_u32
  rcases hs with rfl | rfl | rfl | rfl | rfl | rfl | rfl | rfl | rfl | rfl | rfl | rfl | rfl | rfl | rfl | rfl
  · have hm : bits .and .u64 4 31 = 4 := by decide
    have hj := bits_join .u32 32 (by decide) wraps_u32 4 (x * 16 % 4294967296) (x / 268435456) (by omega) (by omega) (by omega) (by omega) (by omega) (by omega)
    go_enter Tryd.func89, Tryd.ntmps89
    go_wp2
    go_ret
    exact ⟨rfl, (by repeat (first | exact Ext.refl _ | assumption | apply Ext.alloc | apply Ext.drew | apply Ext.drewN | apply Ext.bytes | apply Ext.iter | refine Ext.setCell ?_ (by simp; omega) _ | refine Ext.trans ?_ (by assumption)))⟩
  · have hm : bits .and .u64 5 31 = 5 := by decide
    have hj := bits_join .u32 32 (by decide) wraps_u32 5 (x * 32 % 4294967296) (x / 134217728) (by omega) (by omega) (by omega) (by omega) (by omega) (by omega)
    go_enter Tryd.func89, Tryd.ntmps89
    go_wp2
    go_ret
    exact ⟨rfl, (by repeat (first | exact Ext.refl _ | assumption | apply Ext.alloc | apply Ext.drew | apply Ext.drewN | apply Ext.bytes | apply Ext.iter | refine Ext.setCell ?_ (by simp; omega) _ | refine Ext.trans ?_ (by assumption)))⟩
  · have hm : bits .and .u64 6 31 = 6 := by decide
    have hj := bits_join .u32 32 (by decide) wraps_u32 6 (x * 64 % 4294967296) (x / 67108864) (by omega) (by omega) (by omega) (by omega) (by omega) (by omega)
    go_enter Tryd.func89, Tryd.ntmps89
    go_wp2
    go_ret
    exact ⟨rfl, (by repeat (first | exact Ext.refl _ | assumption | apply Ext.alloc | apply Ext.drew | apply Ext.drewN | apply Ext.bytes | apply Ext.iter | refine Ext.setCell ?_ (by simp; omega) _ | refine Ext.trans ?_ (by assumption)))⟩
  · have hm : bits .and .u64 7 31 = 7 := by decide
    have hj := bits_join .u32 32 (by decide) wraps_u32 7 (x * 128 % 4294967296) (x / 33554432) (by omega) (by omega) (by omega) (by omega) (by omega) (by omega)
    go_enter Tryd.func89, Tryd.ntmps89
    go_wp2
    go_ret
    exact ⟨rfl, (by repeat (first | exact Ext.refl _ | assumption | apply Ext.alloc | apply Ext.drew | apply Ext.drewN | apply Ext.bytes | apply Ext.iter | refine Ext.setCell ?_ (by simp; omega) _ | refine Ext.trans ?_ (by assumption)))⟩
  · have hm : bits .and .u64 9 31 = 9 := by decide
    have hj := bits_join .u32 32 (by decide) wraps_u32 9 (x * 512 % 4294967296) (x / 8388608) (by omega) (by omega) (by omega) (by omega) (by omega) (by omega)
    go_enter Tryd.func89, Tryd.ntmps89
    go_wp2
    go_ret
    exact ⟨rfl, (by repeat (first | exact Ext.refl _ | assumption | apply Ext.alloc | apply Ext.drew | apply Ext.drewN | apply Ext.bytes | apply Ext.iter | refine Ext.setCell ?_ (by simp; omega) _ | refine Ext.trans ?_ (by assumption)))⟩
  · have hm : bits .and .u64 10 31 = 10 := by decide
    have hj := bits_join .u32 32 (by decide) wraps_u32 10 (x * 1024 % 4294967296) (x / 4194304) (by omega) (by omega) (by omega) (by omega) (by omega) (by omega)
    go_enter Tryd.func89, Tryd.ntmps89
    go_wp2
    go_ret
    exact ⟨rfl, (by repeat (first | exact Ext.refl _ | assumption | apply Ext.alloc | apply Ext.drew | apply Ext.drewN | apply Ext.bytes | apply Ext.iter | refine Ext.setCell ?_ (by simp; omega) _ | refine Ext.trans ?_ (by assumption)))⟩
  · have hm : bits .and .u64 11 31 = 11 := by decide
    have hj := bits_join .u32 32 (by decide) wraps_u32 11 (x * 2048 % 4294967296) (x / 2097152) (by omega) (by omega) (by omega) (by omega) (by omega) (by omega)
    go_enter Tryd.func89, Tryd.ntmps89
    go_wp2
    go_ret
    exact ⟨rfl, (by repeat (first | exact Ext.refl _ | assumption | apply Ext.alloc | apply Ext.drew | apply Ext.drewN | apply Ext.bytes | apply Ext.iter | refine Ext.setCell ?_ (by simp; omega) _ | refine Ext.trans ?_ (by assumption)))⟩
  · have hm : bits .and .u64 12 31 = 12 := by decide
    have hj := bits_join .u32 32 (by decide) wraps_u32 12 (x * 4096 % 4294967296) (x / 1048576) (by omega) (by omega) (by omega) (by omega) (by omega) (by omega)
    go_enter Tryd.func89, Tryd.ntmps89
    go_wp2
    go_ret
    exact ⟨rfl, (by repeat (first | exact Ext.refl _ | assumption | apply Ext.alloc | apply Ext.drew | apply Ext.drewN | apply Ext.bytes | apply Ext.iter | refine Ext.setCell ?_ (by simp; omega) _ | refine Ext.trans ?_ (by assumption)))⟩
  · have hm : bits .and .u64 14 31 = 14 := by decide
    have hj := bits_join .u32 32 (by decide) wraps_u32 14 (x * 16384 % 4294967296) (x / 262144) (by omega) (by omega) (by omega) (by omega) (by omega) (by omega)
    go_enter Tryd.func89, Tryd.ntmps89
    go_wp2
    go_ret
    exact ⟨rfl, (by repeat (first | exact Ext.refl _ | assumption | apply Ext.alloc | apply Ext.drew | apply Ext.drewN | apply Ext.bytes | apply Ext.iter | refine Ext.setCell ?_ (by simp; omega) _ | refine Ext.trans ?_ (by assumption)))⟩
  · have hm : bits .and .u64 15 31 = 15 := by decide
    have hj := bits_join .u32 32 (by decide) wraps_u32 15 (x * 32768 % 4294967296) (x / 131072) (by omega) (by omega) (by omega) (by omega) (by omega) (by omega)
    go_enter Tryd.func89, Tryd.ntmps89
    go_wp2
    go_ret
    exact ⟨rfl, (by repeat (first | exact Ext.refl _ | assumption | apply Ext.alloc | apply Ext.drew | apply Ext.drewN | apply Ext.bytes | apply Ext.iter | refine Ext.setCell ?_ (by simp; omega) _ | refine Ext.trans ?_ (by assumption)))⟩
  · have hm : bits .and .u64 16 31 = 16 := by decide
    have hj := bits_join .u32 32 (by decide) wraps_u32 16 (x * 65536 % 4294967296) (x / 65536) (by omega) (by omega) (by omega) (by omega) (by omega) (by omega)
    go_enter Tryd.func89, Tryd.ntmps89
    go_wp2
    go_ret
    exact ⟨rfl, (by repeat (first | exact Ext.refl _ | assumption | apply Ext.alloc | apply Ext.drew | apply Ext.drewN | apply Ext.bytes | apply Ext.iter | refine Ext.setCell ?_ (by simp; omega) _ | refine Ext.trans ?_ (by assumption)))⟩
  · have hm : bits .and .u64 17 31 = 17 := by decide
    have hj := bits_join .u32 32 (by decide) wraps_u32 17 (x * 131072 % 4294967296) (x / 32768) (by omega) (by omega) (by omega) (by omega) (by omega) (by omega)
    go_enter Tryd.func89, Tryd.ntmps89
    go_wp2
    go_ret
    exact ⟨rfl, (by repeat (first | exact Ext.refl _ | assumption | apply Ext.alloc | apply Ext.drew | apply Ext.drewN | apply Ext.bytes | apply Ext.iter | refine Ext.setCell ?_ (by simp; omega) _ | refine Ext.trans ?_ (by assumption)))⟩
  · have hm : bits .and .u64 20 31 = 20 := by decide
    have hj := bits_join .u32 32 (by decide) wraps_u32 20 (x * 1048576 % 4294967296) (x / 4096) (by omega) (by omega) (by omega) (by omega) (by omega) (by omega)
    go_enter Tryd.func89, Tryd.ntmps89
    go_wp2
    go_ret
    exact ⟨rfl, (by repeat (first | exact Ext.refl _ | assumption | apply Ext.alloc | apply Ext.drew | apply Ext.drewN | apply Ext.bytes | apply Ext.iter | refine Ext.setCell ?_ (by simp; omega) _ | refine Ext.trans ?_ (by assumption)))⟩
  · have hm : bits .and .u64 21 31 = 21 := by decide
    have hj := bits_join .u32 32 (by decide) wraps_u32 21 (x * 2097152 % 4294967296) (x / 2048) (by omega) (by omega) (by omega) (by omega) (by omega) (by omega)
    go_enter Tryd.func89, Tryd.ntmps89
    go_wp2
    go_ret
    exact ⟨rfl, (by repeat (first | exact Ext.refl _ | assumption | apply Ext.alloc | apply Ext.drew | apply Ext.drewN | apply Ext.bytes | apply Ext.iter | refine Ext.setCell ?_ (by simp; omega) _ | refine Ext.trans ?_ (by assumption)))⟩
  · have hm : bits .and .u64 22 31 = 22 := by decide
    have hj := bits_join .u32 32 (by decide) wraps_u32 22 (x * 4194304 % 4294967296) (x / 1024) (by omega) (by omega) (by omega) (by omega) (by omega) (by omega)
    go_enter Tryd.func89, Tryd.ntmps89
    go_wp2
    go_ret
    exact ⟨rfl, (by repeat (first | exact Ext.refl _ | assumption | apply Ext.alloc | apply Ext.drew | apply Ext.drewN | apply Ext.bytes | apply Ext.iter | refine Ext.setCell ?_ (by simp; omega) _ | refine Ext.trans ?_ (by assumption)))⟩
  · have hm : bits .and .u64 23 31 = 23 := by decide
    have hj := bits_join .u32 32 (by decide) wraps_u32 23 (x * 8388608 % 4294967296) (x / 512) (by omega) (by omega) (by omega) (by omega) (by omega) (by omega)
    go_enter Tryd.func89, Tryd.ntmps89
    go_wp2
    go_ret
    exact ⟨rfl, (by repeat (first | exact Ext.refl _ | assumption | apply Ext.alloc | apply Ext.drew | apply Ext.drewN | apply Ext.bytes | apply Ext.iter | refine Ext.setCell ?_ (by simp; omega) _ | refine Ext.trans ?_ (by assumption)))⟩
end Go.Proofs.YtimecmleaeimkaaDoor
