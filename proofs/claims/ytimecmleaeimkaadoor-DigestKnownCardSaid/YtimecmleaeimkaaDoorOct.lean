/- What the functions of package octet and of its reference compute, and that the code does so. -/
import Derived.Test.YtimecmleaeimkaaDoorBase
namespace Go.Proofs.YtimecmleaeimkaaDoor
open Go.RowKit

/-! ### Plain functions -/
def byteAt (s : ByteArray) (k : Nat) : Int := if h : k < s.size then ((s[k]'h).toNat : Int) else 0
theorem byteAt_eq (s : ByteArray) (k : Nat) (h : k < s.size) : ((s[k]'h).toNat : Int) = byteAt s k := by simp [byteAt, h]
theorem byteAt_bd (s : ByteArray) (k : Nat) : 0 ≤ byteAt s k ∧ byteAt s k < 256 := by
  unfold byteAt; split
  · rename_i h; have := (s[k]'h).toNat_lt; omega
  · omega
def gat (s : ByteArray) : Nat → Int
  | 0 => 0
  | k + 1 => gat s k * 256 + byteAt s k
theorem gat_bd (s : ByteArray) : ∀ k, 0 ≤ gat s k ∧ gat s k < 256 ^ k
  | 0 => by simp [gat]
  | k + 1 => by
    have h := gat_bd s k
    have b := byteAt_bd s k
    have e : (256 : Int) ^ (k + 1) = 256 ^ k * 256 := Int.pow_succ _ _
    simp only [gat]
    constructor
    · omega
    · rw [e]; omega
theorem gat_small (s : ByteArray) (k : Nat) (h : k ≤ 3) : 0 ≤ gat s k ∧ gat s k < 16777216 := by
  have := gat_bd s k
  match k, h with
  | 0, _ => simp at this; omega
  | 1, _ => simp at this; omega
  | 2, _ => simp at this; omega
  | 3, _ => simp at this; omega

theorem gat_small4 (s : ByteArray) (k : Nat) (h : k ≤ 4) : 0 ≤ gat s k ∧ gat s k < 4294967296 := by
  by_cases h3 : k ≤ 3
  · have := gat_small s k h3; omega
  · obtain rfl : k = 4 := by omega
    have h := gat_small s 3 (by omega)
    have b := byteAt_bd s 3
    have e : gat s 4 = gat s 3 * 256 + byteAt s 3 := rfl
    omega

def noS : ByteArray := ⟨#[]⟩
def partS (s : ByteArray) (a n : Int) : ByteArray × Int :=
  if 65536 < (s.size : Int) then (⟨#[]⟩, 3) else if a < 0 ∨ n < 0 then (⟨#[]⟩, 2) else if (s.size : Int) < a ∨ (s.size : Int) - a < n then (⟨#[]⟩, 70) else (s.extract a.toNat (a + n).toNat, 0)
theorem partS_size (s : ByteArray) (a n : Int) (h : (partS s a n).2 = 0) : ((partS s a n).1.size : Int) = n ∧ 0 ≤ n := by
  unfold partS at *
  split at h
  · simp at h
  split at h
  · simp at h
  split at h
  · simp at h
  rename_i h1 h2 h3
  rw [if_neg h1, if_neg h2, if_neg h3]
  simp only [ByteArray.size_extract]
  omega
def putS (o lo hi n : Int) : ByteArray × Int :=
  if n < lo ∨ hi < n then (⟨#[]⟩, 2) else (strOfNums ([n / 16777216 % 256, n / 65536 % 256, n / 256 % 256, n % 256].drop (4 - o).toNat), 0)

theorem or_join (m c : Int) (h0 : 0 ≤ m) (h1 : m < 16777216) (c0 : 0 ≤ c) (c1 : c < 256) : bits .or .i64 (m * 256) c = m * 256 + c :=
  bits_join .i64 63 (by decide) (fun n a b => by rw [IntKind.wrap_i64]; omega) 8 (m * 256) c (by omega) (by omega) (by omega) c0 (by omega) (by omega)

/-! ### gathered, Part, get, U8 .. S32 -/
set_option maxHeartbeats 400000 in
theorem gathered_c (s : ByteArray) (hs : s.size ≤ 4) (w : World) : Calls Tryd.prog 99 #[.string s] w (Ret w (.int .i64 (gat s s.size))) := by
  go_enter Tryd.func99, Tryd.ntmps99
  go_wp2
  go_loop [3, 4, 7] (fun n _ i => ∃ k : Nat, k ≤ s.size ∧ i = .int .i64 k ∧ n = .int .i64 (gat s k)) (fun _ _ i => s.size - (intOf i).toNat)
  case atStart => exact ⟨0, by omega, rfl, rfl⟩
  case round =>
    obtain ⟨k, hk, rfl, rfl⟩ := hrel
    by_cases hlt : k < s.size
    · have hm := gat_small s k (by omega)
      have hb := byteAt_bd s k
      have e1 := byteAt_eq s k hlt
      have hor := or_join (gat s k) (byteAt s k) hm.1 hm.2 hb.1 hb.2
      have Hor := Hd.mk hor
      clear hor
      go_wp2
      go_round
      case rel => exact ⟨k + 1, by omega, by go_num, by rw [Hor.out]; rfl⟩
      case measure => simp [intOf]; omega
    · have hk' : k = s.size := by omega
      have HK := Hd.mk hk'
      clear hk'
      go_wp2
      go_ret
      exact ⟨by rw [← HK.out]; rfl, (by repeat (first | exact Ext.refl _ | assumption | apply Ext.alloc | apply Ext.drew | apply Ext.drewN | apply Ext.bytes | apply Ext.iter | refine Ext.setCell ?_ (by simp; omega) _ | refine Ext.trans ?_ (by assumption)))⟩

set_option maxHeartbeats 400000 in
theorem Part_c (s : ByteArray) (a n : Int) (w : World) : Calls Tryd.prog 33 #[.string s, .int .i64 a, .int .i64 n] w (Ret w (.tuple #[.string (partS s a n).1, .int .i64 (partS s a n).2])) := by
  go_enter Tryd.func33, Tryd.ntmps33
  go_wp2
  all_goals
    go_ret2
    exact ⟨by unfold partS; ((repeat (first | rw [if_pos (by omega)] | rw [if_neg (by omega)])); first | done | rfl), (by repeat (first | exact Ext.refl _ | assumption | apply Ext.alloc | apply Ext.drew | apply Ext.drewN | apply Ext.bytes | apply Ext.iter | refine Ext.setCell ?_ (by simp; omega) _ | refine Ext.trans ?_ (by assumption)))⟩

def widW : Nat → Value
  | 0 => .agg #[.int .i64 1, .int .i64 0, .int .i64 255, .func (.func 101) #[] #[]]
  | 1 => .agg #[.int .i64 2, .int .i64 0, .int .i64 65535, .func (.func 101) #[] #[]]
  | 2 => .agg #[.int .i64 4, .int .i64 0, .int .i64 4294967295, .func (.func 101) #[] #[]]
  | _ => .agg #[.int .i64 4, .int .i64 (-2147483648), .int .i64 2147483647, .func (.func 100) #[] #[]]
def widAll : Value := .agg #[.int .i64 1, .int .i64 0, .int .i64 255, .func (.func 101) #[] #[], .int .i64 2, .int .i64 0, .int .i64 65535, .func (.func 101) #[] #[],
  .int .i64 4, .int .i64 0, .int .i64 4294967295, .func (.func 101) #[] #[], .int .i64 4, .int .i64 (-2147483648), .int .i64 2147483647, .func (.func 100) #[] #[]]
def widOct : Nat → Int | 0 => 1 | 1 => 2 | _ => 4
def widLow : Nat → Int | 3 => -2147483648 | _ => 0
def widHigh : Nat → Int | 0 => 255 | 1 => 65535 | 2 => 4294967295 | _ => 2147483647
def sgn (n : Int) : Int := if 2147483648 ≤ n then n - 4294967296 else n
def widOf (j : Nat) (n : Int) : Int := if j = 3 then sgn n else n

set_option maxHeartbeats 400000 in
theorem widths_c (w : World) : Calls Tryd.prog 73 #[] w (Ret w widAll) := by
  go_enter Tryd.func73, Tryd.ntmps73
  go_wp2
  exact bodyPost_ret (v := widAll) (by simp [results, Tryd.results73, go_sem, widAll]) rfl ⟨rfl, (by repeat (first | exact Ext.refl _ | assumption | apply Ext.alloc | apply Ext.drew | apply Ext.drewN | apply Ext.bytes | apply Ext.iter | refine Ext.setCell ?_ (by simp; omega) _ | refine Ext.trans ?_ (by assumption)))⟩

set_option maxHeartbeats 400000 in
theorem signed_c (n : Int) (h0 : 0 ≤ n) (h1 : n < 4294967296) (w : World) : Calls Tryd.prog 100 #[.int .i64 n] w (Ret w (.int .i64 (sgn n))) := by
  go_enter Tryd.func100, Tryd.ntmps100
  go_wp2
  all_goals
    go_ret
    exact ⟨by unfold sgn; ((repeat (first | rw [if_pos (by omega)] | rw [if_neg (by omega)])); first | done | rfl), (by repeat (first | exact Ext.refl _ | assumption | apply Ext.alloc | apply Ext.drew | apply Ext.drewN | apply Ext.bytes | apply Ext.iter | refine Ext.setCell ?_ (by simp; omega) _ | refine Ext.trans ?_ (by assumption)))⟩
set_option maxHeartbeats 400000 in
theorem plain_c (n : Int) (w : World) : Calls Tryd.prog 101 #[.int .i64 n] w (Ret w (.int .i64 n)) := by
  go_enter Tryd.func101, Tryd.ntmps101
  go_wp2
  go_ret
  exact ⟨rfl, (by repeat (first | exact Ext.refl _ | assumption | apply Ext.alloc | apply Ext.drew | apply Ext.drewN | apply Ext.bytes | apply Ext.iter | refine Ext.setCell ?_ (by simp; omega) _ | refine Ext.trans ?_ (by assumption)))⟩

end Go.Proofs.YtimecmleaeimkaaDoor
