/- The four round functions of package digest and the choice of a word: the closures' contracts over plain integers. -/
import Derived.Test.YtimecmleaeimkaaDoorDigR
import Derived.Lib.EndianBits
namespace Go.Proofs.YtimecmleaeimkaaDoor
open Go.RowKit
set_option linter.unusedVariables false
attribute [local go_sem] clo2 clo1 fnv

def iand (a b : Int) : Int := ((a.toNat &&& b.toNat : Nat) : Int)
def ior (a b : Int) : Int := ((a.toNat ||| b.toNat : Nat) : Int)
def ixor (a b : Int) : Int := ((a.toNat ^^^ b.toNat : Nat) : Int)
def inot (a : Int) : Int := 4294967295 - a
/-- A number of 32 bits. -/
def U (a : Int) : Prop := 0 ≤ a ∧ a < 4294967296
theorem iand_U {a b : Int} (hb : U b) : U (iand a b) := by
  unfold U iand at *
  have : a.toNat &&& b.toNat < 2 ^ 32 := Nat.and_lt_two_pow _ (by omega)
  omega
theorem ior_U {a b : Int} (ha : U a) (hb : U b) : U (ior a b) := by
  unfold U ior at *
  have : a.toNat ||| b.toNat < 2 ^ 32 := Nat.or_lt_two_pow (by omega) (by omega)
  omega
theorem ixor_U {a b : Int} (ha : U a) (hb : U b) : U (ixor a b) := by
  unfold U ixor at *
  have : a.toNat ^^^ b.toNat < 2 ^ 32 := Nat.xor_lt_two_pow (by omega) (by omega)
  omega
theorem inot_U {a : Int} (ha : U a) : U (inot a) := by unfold U inot at *; omega
theorem u32_iand {a b : Int} (ha : U a) (hb : U b) : bits .and .u32 a b = iand a b := by
  unfold U iand at *
  have h := (bits_nat .u32 32 (by decide) wraps_u32 a.toNat b.toNat (by omega) (by omega)).1
  rwa [Int.toNat_of_nonneg ha.1, Int.toNat_of_nonneg hb.1] at h
theorem u32_ior {a b : Int} (ha : U a) (hb : U b) : bits .or .u32 a b = ior a b := by
  unfold U ior at *
  have h := (bits_nat .u32 32 (by decide) wraps_u32 a.toNat b.toNat (by omega) (by omega)).2
  rwa [Int.toNat_of_nonneg ha.1, Int.toNat_of_nonneg hb.1] at h
theorem u32_ixor {a b : Int} (ha : U a) (hb : U b) : bits .xor .u32 a b = ixor a b := u32_xor a b ha.1 ha.2 hb.1 hb.2

theorem xor_ones (n : Nat) (h : n < 4294967296) : 4294967295 ^^^ n = 4294967295 - n := by
  have e := congrArg BitVec.toNat (BitVec.allOnes_xor (x := BitVec.ofNat 32 n))
  rw [BitVec.toNat_xor, BitVec.toNat_not, BitVec.toNat_allOnes, BitVec.toNat_ofNat, Nat.mod_eq_of_lt (by omega)] at e
  exact e
theorem u32_not {a : Int} (ha : U a) : bits .xor .u32 IntKind.u32.max a = inot a := by
  have hm : IntKind.u32.max = 4294967295 := by decide
  rw [hm, u32_ixor (by unfold U; omega) ha]
  unfold ixor inot U at *
  show ((4294967295 ^^^ a.toNat : Nat) : Int) = _
  rw [xor_ones _ (by omega)]
  omega
theorem u32_sg : IntKind.u32.signed = false := rfl

def F0 (b c d : Int) : Int := ior (iand b c) (iand (inot b) d)
def F1 (b c d : Int) : Int := F0 d b c
def F2 (b c d : Int) : Int := ixor (ixor b c) d
def F3 (b c d : Int) : Int := ixor c (ior b (inot d))
theorem F0_U {b c d : Int} (hb : U b) (hc : U c) (hd : U d) : U (F0 b c d) := ior_U (iand_U hc) (iand_U hd)
theorem F1_U {b c d : Int} (hb : U b) (hc : U c) (hd : U d) : U (F1 b c d) := F0_U hd hb hc
theorem F2_U {b c d : Int} (hb : U b) (hc : U c) (hd : U d) : U (F2 b c d) := ixor_U (ixor_U hb hc) hd
theorem F3_U {b c d : Int} (hb : U b) (hc : U c) (hd : U d) : U (F3 b c d) := ixor_U hc (ior_U hb (inot_U hd))

set_option maxHeartbeats 400000 in
theorem f0_c (b c d : Int) (hb : U b) (hc : U c) (hd : U d) (w : World) : Calls Tryd.prog 111 #[.int .u32 b, .int .u32 c, .int .u32 d] w (Ret w (.int .u32 (F0 b c d))) := by
  have h1 := u32_not hb
  have h2 := u32_iand hb hc
  have h3 := u32_iand (inot_U hb) hd
  have h4 := u32_ior (iand_U hc (a := b)) (iand_U hd (a := inot b))
  have hs := u32_sg
  go_enter Tryd.func111, Tryd.ntmps111
  go_wp2
  go_ret
  exact ⟨rfl, (by repeat (first | exact Ext.refl _ | assumption | apply Ext.alloc | apply Ext.drew | apply Ext.drewN | apply Ext.bytes | apply Ext.iter | refine Ext.setCell ?_ (by simp; omega) _ | refine Ext.trans ?_ (by assumption)))⟩
set_option maxHeartbeats 400000 in
theorem f1_c (b c d : Int) (hb : U b) (hc : U c) (hd : U d) (g : Nat) (w : World) (hcell : w.cell? ⟨g, 0, none⟩ = some (fnv 111)) : Calls Tryd.prog 114 #[.int .u32 b, .int .u32 c, .int .u32 d, .pointer (some ⟨g, 0, none⟩)] w (Ret w (.int .u32 (F1 b c d))) := by
  go_enter Tryd.func114, Tryd.ntmps114
  go_wp2_with (go_at_call 111; refine (f0_c _ _ _ hd hb hc _).mono ?_; rintro e w1 ⟨rfl, hb⟩)
  go_ret
  exact ⟨rfl, (by repeat (first | exact Ext.refl _ | assumption | apply Ext.alloc | apply Ext.drew | apply Ext.drewN | apply Ext.bytes | apply Ext.iter | refine Ext.setCell ?_ (by simp; omega) _ | refine Ext.trans ?_ (by assumption)))⟩
set_option maxHeartbeats 400000 in
theorem f2_c (b c d : Int) (hb : U b) (hc : U c) (hd : U d) (w : World) : Calls Tryd.prog 115 #[.int .u32 b, .int .u32 c, .int .u32 d] w (Ret w (.int .u32 (F2 b c d))) := by
  have h1 := u32_ixor hb hc
  have h2 := u32_ixor (ixor_U hb hc) hd
  go_enter Tryd.func115, Tryd.ntmps115
  go_wp2
  go_ret
  exact ⟨rfl, (by repeat (first | exact Ext.refl _ | assumption | apply Ext.alloc | apply Ext.drew | apply Ext.drewN | apply Ext.bytes | apply Ext.iter | refine Ext.setCell ?_ (by simp; omega) _ | refine Ext.trans ?_ (by assumption)))⟩
set_option maxHeartbeats 400000 in
theorem f3_c (b c d : Int) (hb : U b) (hc : U c) (hd : U d) (w : World) : Calls Tryd.prog 116 #[.int .u32 b, .int .u32 c, .int .u32 d] w (Ret w (.int .u32 (F3 b c d))) := by
  have h1 := u32_not hd
  have h2 := u32_ior hb (inot_U hd)
  have h3 := u32_ixor hc (ior_U hb (inot_U hd))
  have hs := u32_sg
  go_enter Tryd.func116, Tryd.ntmps116
  go_wp2
  go_ret
  exact ⟨rfl, (by repeat (first | exact Ext.refl _ | assumption | apply Ext.alloc | apply Ext.drew | apply Ext.drewN | apply Ext.bytes | apply Ext.iter | refine Ext.setCell ?_ (by simp; omega) _ | refine Ext.trans ?_ (by assumption)))⟩
set_option maxHeartbeats 400000 in
theorem word_c (i f n : Int) (hi : 0 ≤ i ∧ i < 64) (hf : 0 ≤ f ∧ f ≤ 7) (hn : 0 ≤ n ∧ n ≤ 5) (g h : Nat) (w : World) (hg : w.cell? ⟨g, 0, none⟩ = some (.int .i64 f)) (hh : w.cell? ⟨h, 0, none⟩ = some (.int .i64 n)) :
    Calls Tryd.prog 113 #[.int .i64 i, .pointer (some ⟨g, 0, none⟩), .pointer (some ⟨h, 0, none⟩)] w (Ret w (.int .i64 ((f * i + n) % 16))) := by
  have b1 : 0 ≤ f * i ∧ f * i ≤ 7 * 63 := ⟨Int.mul_nonneg hf.1 hi.1, Int.mul_le_mul hf.2 (by omega) hi.1 (by omega)⟩
  obtain ⟨m, em⟩ : ∃ m, f * i = m := ⟨_, rfl⟩
  rw [em] at b1
  have h1 : IntKind.i64.wrap m = m := IntWalk.i64_in _ (by omega)
  have h2 : IntKind.i64.wrap (m + n) = m + n := IntWalk.i64_in _ (by omega)
  rw [em]
  go_enter Tryd.func113, Tryd.ntmps113
  go_wp2
  go_ret
  exact ⟨rfl, (by repeat (first | exact Ext.refl _ | assumption | apply Ext.alloc | apply Ext.drew | apply Ext.drewN | apply Ext.bytes | apply Ext.iter | refine Ext.setCell ?_ (by simp; omega) _ | refine Ext.trans ?_ (by assumption)))⟩
end Go.Proofs.YtimecmleaeimkaaDoor
