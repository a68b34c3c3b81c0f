/- MD5 over plain integers: the steps, a block, all blocks. -/
import Derived.Test.YtimecmleaeimkaaDoorDigS
namespace Go.Proofs.YtimecmleaeimkaaDoor
set_option linter.unusedVariables false

structure Q4 where
  a : Int
  b : Int
  c : Int
  d : Int
deriving DecidableEq
structure Q4.U (x : Q4) : Prop where
  a : Go.Proofs.YtimecmleaeimkaaDoor.U x.a
  b : Go.Proofs.YtimecmleaeimkaaDoor.U x.b
  c : Go.Proofs.YtimecmleaeimkaaDoor.U x.c
  d : Go.Proofs.YtimecmleaeimkaaDoor.U x.d
def M : Int := 4294967296
theorem U_mod (a : Int) : U (a % 4294967296) := by unfold U; omega
def rotl (x s : Int) : Int := x * 2 ^ s.toNat % 4294967296 + x / 2 ^ (32 - s.toNat)
def byL : List Int := [7, 12, 17, 22, 5, 9, 14, 20, 4, 11, 16, 23, 6, 10, 15, 21]
def byT (i : Nat) : Int := byL.getD (4 * (i / 16) + i % 4) 0
def Fi (i : Nat) (b c d : Int) : Int := if i < 16 then F0 b c d else if i < 32 then F1 b c d else if i < 48 then F2 b c d else F3 b c d
def wi (i : Nat) : Nat := if i < 16 then i else if i < 32 then (5 * i + 1) % 16 else if i < 48 then (3 * i + 5) % 16 else 7 * i % 16
def K (i : Nat) : Int := ktab.getD i 0
def stp (X : Nat → Int) (i : Nat) (y : Q4) : Q4 :=
  ⟨y.d, (y.b + rotl ((y.a + Fi i y.b y.c y.d + K i + X (wi i)) % 4294967296) (byT i)) % 4294967296, y.b, y.c⟩
def stps (X : Nat → Int) : Nat → Q4 → Q4
  | 0, y => y
  | n + 1, y => stp X n (stps X n y)
def add4 (x y : Q4) : Q4 := ⟨(x.a + y.a) % 4294967296, (x.b + y.b) % 4294967296, (x.c + y.c) % 4294967296, (x.d + y.d) % 4294967296⟩
def blk (X : Nat → Int) (x : Q4) : Q4 := add4 x (stps X 64 x)
/-- The word k of the block that begins at p. -/
def wd (s : ByteArray) (p k : Nat) : Int := rd s (p + 4 * k)
/-- The numbers behind n blocks. -/
def chg (s : ByteArray) : Nat → Q4 → Q4
  | 0, x => x
  | n + 1, x => blk (wd s (64 * n)) (chg s n x)

theorem Fi_U (i : Nat) {b c d : Int} (hb : U b) (hc : U c) (hd : U d) : U (Fi i b c d) := by
  unfold Fi
  split
  · exact F0_U hb hc hd
  · split
    · exact F1_U hb hc hd
    · split
      · exact F2_U hb hc hd
      · exact F3_U hb hc hd
theorem K_U (i : Nat) : U (K i) := by
  unfold K
  by_cases h : i < 64
  · have : ∀ i : Fin 64, 0 ≤ ktab.getD i.1 0 ∧ ktab.getD i.1 0 < 4294967296 := by decide +kernel
    exact this ⟨i, h⟩
  · rw [List.getD_eq_getElem?_getD, List.getElem?_eq_none (by have : ktab.length = 64 := by decide +kernel
                                                              omega)]
    unfold U; decide
theorem wi_lt (i : Nat) (h : i < 64) : wi i < 16 := by unfold wi; split <;> (try split) <;> (try split) <;> omega
theorem stp_U {X : Nat → Int} {i : Nat} {y : Q4} (h : y.U) : (stp X i y).U := ⟨h.d, U_mod _, h.b, h.c⟩
theorem stps_U {X : Nat → Int} {n : Nat} {y : Q4} (h : y.U) : (stps X n y).U := by
  induction n with
  | zero => exact h
  | succ n ih => exact stp_U ih
theorem add4_U (x y : Q4) : (add4 x y).U := ⟨U_mod _, U_mod _, U_mod _, U_mod _⟩
theorem blk_U (X : Nat → Int) (x : Q4) : (blk X x).U := add4_U _ _
theorem chg_U {s : ByteArray} {n : Nat} {x : Q4} (h : x.U) : (chg s n x).U := by
  cases n with
  | zero => exact h
  | succ n => exact blk_U _ _
/-- Only the words of the block count. -/
theorem stps_congr {X Y : Nat → Int} (h : ∀ k, k < 16 → X k = Y k) : ∀ n, n ≤ 64 → ∀ y, stps X n y = stps Y n y
  | 0, _, _ => rfl
  | n + 1, hn, y => by
    show stp X n (stps X n y) = stp Y n (stps Y n y)
    rw [stps_congr h n (by omega) y]
    unfold stp
    rw [h _ (wi_lt n (by omega))]
theorem blk_congr {X Y : Nat → Int} (h : ∀ k, k < 16 → X k = Y k) (x : Q4) : blk X x = blk Y x := by
  unfold blk
  rw [stps_congr h 64 (Nat.le_refl _) x]
def begin4 : Q4 := ⟨1732584193, 4023233417, 2562383102, 271733878⟩
theorem begin4_U : begin4.U := ⟨by unfold U; decide, by unfold U; decide, by unfold U; decide, by unfold U; decide⟩
end Go.Proofs.YtimecmleaeimkaaDoor
