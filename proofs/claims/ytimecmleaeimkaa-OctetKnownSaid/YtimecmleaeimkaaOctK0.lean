/- OctetKnown: plain facts, and the pieces of its code. -/
import Derived.Test.YtimecmleaeimkaaOct9
import Derived.Test.YtimecmleaeimkaaBase2
namespace Go.Proofs.Ytimecmleaeimkaa
open Go.RowKit
set_option linter.unusedVariables false
attribute [local go_sem] clo

theorem kn0 : getS ⟨#[128, 0, 0, 0]⟩ (0) 3 = (-2147483648, 0) := by decide +kernel
theorem kn1 : getS ⟨#[127, 255, 255, 255]⟩ (0) 3 = (2147483647, 0) := by decide +kernel
theorem kn2 : getS ⟨#[255]⟩ (0) 0 = (255, 0) := by decide +kernel
theorem kn3 : partS ⟨#[]⟩ (0) (0) = (⟨#[]⟩, 0) := by decide +kernel
theorem kn4 : partS ⟨#[97]⟩ (1) (1) = (⟨#[]⟩, 70) := by decide +kernel
theorem kn5 : partS ⟨#[97]⟩ (1) (0) = (⟨#[]⟩, 0) := by decide +kernel
theorem kn6 : partS ⟨#[97]⟩ (2) (0) = (⟨#[]⟩, 70) := by decide +kernel
theorem kn7 : partS ⟨#[97]⟩ (0) (-1) = (⟨#[]⟩, 2) := by decide +kernel
theorem kn8 : textS ⟨#[0, 0]⟩ (0) (2) = (⟨#[]⟩, 0) := by decide +kernel
theorem kn9 : textS ⟨#[]⟩ (0) (0) = (⟨#[]⟩, 0) := by decide +kernel
theorem kn10 : textS ⟨#[127]⟩ (0) (1) = (⟨#[]⟩, 5) := by decide +kernel
theorem kn11 : textS ⟨#[32, 126]⟩ (0) (2) = (⟨#[32, 126]⟩, 0) := by decide +kernel
theorem kn12 : textS ⟨#[195, 169]⟩ (0) (2) = (⟨#[]⟩, 5) := by decide +kernel
theorem kn13 : textS ⟨#[0, 97]⟩ (0) (2) = (⟨#[]⟩, 5) := by decide +kernel
theorem kn14 : putS (widOct 0) (widLow 0) (widHigh 0) (255) = (⟨#[255]⟩, 0) := by decide +kernel
theorem kn15 : putS (widOct 0) (widLow 0) (widHigh 0) (-1) = (⟨#[]⟩, 2) := by decide +kernel
theorem kn16 : putS (widOct 1) (widLow 1) (widHigh 1) (65536) = (⟨#[]⟩, 2) := by decide +kernel
theorem kn17 : putS (widOct 2) (widLow 2) (widHigh 2) (4294967295) = (⟨#[255, 255, 255, 255]⟩, 0) := by decide +kernel
theorem kn18 : putS (widOct 2) (widLow 2) (widHigh 2) (4294967296) = (⟨#[]⟩, 2) := by decide +kernel
theorem kn19 : putS (widOct 3) (widLow 3) (widHigh 3) (-2147483648) = (⟨#[128, 0, 0, 0]⟩, 0) := by decide +kernel
theorem kn20 : putS (widOct 3) (widLow 3) (widHigh 3) (2147483648) = (⟨#[]⟩, 2) := by decide +kernel
theorem kn21 : putS (widOct 3) (widLow 3) (widHigh 3) (-2147483649) = (⟨#[]⟩, 2) := by decide +kernel
theorem kn22 : putS (widOct 2) (widLow 2) (widHigh 2) (0) = (⟨#[0, 0, 0, 0]⟩, 0) := by decide +kernel
theorem kn23 : putTextS ⟨#[10]⟩ (-1) = (⟨#[]⟩, 2) := by decide +kernel
theorem kn24 : putTextS ⟨#[]⟩ (65537) = (⟨#[]⟩, 2) := by decide +kernel
theorem kn25 : putTextS ⟨#[10, 97, 98]⟩ (1) = (⟨#[]⟩, 5) := by decide +kernel
theorem kn26 : putTextS ⟨#[]⟩ (0) = (⟨#[]⟩, 0) := by decide +kernel
theorem kn27 : padS ⟨#[]⟩ (65) = (⟨#[]⟩, 2) := by decide +kernel
theorem kn28 : padS ⟨#[]⟩ (64) = (⟨#[]⟩, 0) := by decide +kernel

theorem byteAt_extract (s : ByteArray) (a b k : Nat) (hk : a + k < b) (hb : b ≤ s.size) : byteAt (s.extract a b) k = byteAt s (a + k) := by
  have h1 : k < (s.extract a b).size := by rw [ByteArray.size_extract]; omega
  have h2 : a + k < s.size := by omega
  unfold byteAt
  rw [dif_pos h1, dif_pos h2]
  congr 2
  exact ByteArray.getElem_extract ..
theorem extract_all (s : ByteArray) (n : Nat) (h : n = s.size) : s.extract 0 n = s := by subst h; exact ByteArray.extract_zero_size
theorem prt_all (s : ByteArray) (h : ∀ k, k < s.size → byteAt s k = 97) : ∀ n, n ≤ s.size → prt s n = true
  | 0, _ => rfl
  | n + 1, hn => by simp [prt, prt_all s h n (by omega), h n (by omega)]
def fullS : ByteArray := ⟨(Lib.repeatL (ByteArray.mk #[97]).data.toList 65536).toArray⟩
theorem repeat_rep (c : Nat) : Lib.repeatL (ByteArray.mk #[97]).data.toList c = List.replicate c 97 := by
  have := Lib.repeatL_replicate (97 : UInt8) 1 c
  simpa using this
theorem fullS_size : fullS.size = 65536 := by
  show (Lib.repeatL (ByteArray.mk #[97]).data.toList 65536).toArray.size = _
  rw [List.size_toArray, repeat_rep, List.length_replicate]
theorem fullS_byte (k : Nat) (hk : k < fullS.size) : byteAt fullS k = 97 := by
  unfold byteAt
  rw [dif_pos hk]
  have e : fullS = ⟨(List.replicate 65536 97).toArray⟩ := by unfold fullS; rw [repeat_rep]
  have h : ∀ (t : ByteArray) (ht : k < t.size), t = ⟨(List.replicate 65536 97).toArray⟩ → ((t[k]'ht).toNat : Int) = 97 := by
    intro t ht et
    subst et
    show (((List.replicate 65536 97).toArray[k]'ht).toNat : Int) = 97
    rw [List.getElem_toArray, List.getElem_replicate]
    rfl
  exact h fullS hk e

/-- What OctetKnown asks of a long text. -/
structure Full (full fa ft : ByteArray) : Prop where
  size : full.size = 65536
  add : full ++ ⟨#[97]⟩ = fa
  cut : full.extract 0 65533 = ft
  tsize : ft.size = 65533
  g1 : getS full 65535 0 = (97, 0)
  g2 : getS full 65536 0 = (0, 70)
  g3 : getS fa 0 0 = (0, 3)
  g4 : getS fa (-1) 2 = (0, 3)
  p1 : partS fa (-1) 0 = (⟨#[]⟩, 3)
  p2 : partS full 0 65536 = (full, 0)
  t1 : putTextS full 65536 = (full, 0)
  d1 : padS fa 0 = (⟨#[]⟩, 3)
  d2 : padS full 0 = (⟨#[]⟩, 2)
  d3 : padS full 64 = (full, 0)
  d4 : padS full 63 = (⟨#[]⟩, 3)
  d5 : padS ft 4 = (ft ++ ⟨#[0, 0, 0]⟩, 0)
  fasize : fa.size = 65537
theorem full_is : ∃ fa ft, Full fullS fa ft := by
  have hs := fullS_size
  have hb := fullS_byte
  generalize fullS = full at *
  have hfa : (full ++ ⟨#[97]⟩ : ByteArray).size = 65537 := by rw [ByteArray.size_append, hs]; rfl
  have hft : (full.extract 0 65533).size = 65533 := by rw [ByteArray.size_extract, hs]; rfl
  refine ⟨_, _, hs, rfl, rfl, hft, ?_, ?_, ?_, ?_, ?_, ?_, ?_, ?_, ?_, ?_, ?_, ?_, hfa⟩
  · have h : partS full 65535 1 = (full.extract 65535 65536, 0) := by
      unfold partS; rw [hs, if_neg (by omega), if_neg (by omega), if_neg (by omega)]; rfl
    show (if (partS full 65535 1).2 = 0 then (widOf 0 (gat (partS full 65535 1).1 (partS full 65535 1).1.size), 0) else (0, (partS full 65535 1).2)) = _
    rw [h, if_pos rfl]
    have hz : (full.extract 65535 65536).size = 1 := by rw [ByteArray.size_extract, hs]; rfl
    have hbt := byteAt_extract full 65535 65536 0 (by omega) (by omega)
    rw [hb _ (by omega)] at hbt
    simp only [hz, gat, hbt]
    decide
  · have h : partS full 65536 1 = (⟨#[]⟩, 70) := by
      unfold partS; rw [hs, if_neg (by omega), if_neg (by omega), if_pos (by omega)]
    show (if (partS full 65536 1).2 = 0 then (widOf 0 (gat (partS full 65536 1).1 (partS full 65536 1).1.size), 0) else (0, (partS full 65536 1).2)) = _
    rw [h, if_neg (by decide)]
  · have h : partS (full ++ ⟨#[97]⟩) 0 1 = (⟨#[]⟩, 3) := by
      unfold partS; rw [hfa, if_pos (by omega)]
    show (if (partS (full ++ ⟨#[97]⟩) 0 1).2 = 0 then (widOf 0 (gat (partS (full ++ ⟨#[97]⟩) 0 1).1 (partS (full ++ ⟨#[97]⟩) 0 1).1.size), 0) else (0, (partS (full ++ ⟨#[97]⟩) 0 1).2)) = _
    rw [h, if_neg (by decide)]
  · have h : partS (full ++ ⟨#[97]⟩) (-1) 4 = (⟨#[]⟩, 3) := by
      unfold partS; rw [hfa, if_pos (by omega)]
    show (if (partS (full ++ ⟨#[97]⟩) (-1) 4).2 = 0 then (widOf 2 (gat (partS (full ++ ⟨#[97]⟩) (-1) 4).1 (partS (full ++ ⟨#[97]⟩) (-1) 4).1.size), 0) else (0, (partS (full ++ ⟨#[97]⟩) (-1) 4).2)) = _
    rw [h, if_neg (by decide)]
  · unfold partS; rw [hfa, if_pos (by omega)]
  · unfold partS; rw [hs, if_neg (by omega), if_neg (by omega), if_neg (by omega)]
    rw [show (0 : Int).toNat = 0 from rfl, show ((0 : Int) + 65536).toNat = 65536 from rfl, extract_all full 65536 hs.symm]
  · unfold putTextS; rw [if_neg (by omega), prt_all full hb _ (Nat.le_refl _), if_neg (by decide), hs, if_neg (by omega)]
    rw [show ((65536 : Int) - ((65536 : Nat) : Int)).toNat = 0 from rfl, zeroS_none]
  · unfold padS; rw [hfa, if_pos (by omega)]
  · unfold padS; rw [hs, if_neg (by omega), if_pos (by omega)]
  · unfold padS; rw [hs, if_neg (by omega), if_neg (by omega), if_neg (by omega)]
    rw [show (((64 : Int) - ((65536 : Nat) : Int) % 64) % 64).toNat = 0 from rfl, zeroS_none]
  · unfold padS; rw [hs, if_neg (by omega), if_neg (by omega), if_pos (by omega)]
  · unfold padS; rw [hft, if_neg (by omega), if_neg (by omega), if_neg (by omega)]
    rfl
def AnyW (w : World) : Prop := True
theorem RepeatA_c (w : World) : Calls Try.prog 19 #[.string ⟨#[97]⟩, .int .i64 65536] w (Ret w (.string fullS)) :=
  Try.strings_Repeat ⟨#[97]⟩ 65536 w (by decide) (by decide)
theorem U32min_c (w : World) : Calls Try.prog 23 #[.string ⟨#[]⟩, .int .i64 (-9223372036854775808)] w (Ret w (.tuple #[.int .i64 0, .int .i64 2])) := U32_c ⟨#[]⟩ (-9223372036854775808) w
theorem S32max_c (w : World) : Calls Try.prog 24 #[.string ⟨#[]⟩, .int .i64 9223372036854775807] w (Ret w (.tuple #[.int .i64 0, .int .i64 70])) := S32_c ⟨#[]⟩ 9223372036854775807 w
theorem Partmax_c (w : World) : Calls Try.prog 26 #[.string ⟨#[97]⟩, .int .i64 1, .int .i64 9223372036854775807] w (Ret w (.tuple #[.string ⟨#[]⟩, .int .i64 70])) := Part_c ⟨#[97]⟩ 1 9223372036854775807 w


/-- The regions of a code, in the order of the text. -/
def regs : Code → List (Nat × Code)
  | .region i ops d => [(i, .region i ops d)]
  | .seq a b => regs a ++ regs b
  | .cond _ a b => regs a ++ regs b
  | .block _ b => regs b
  | .loop b => regs b
  | .scope b => regs b
  | _ => []
noncomputable def pieceK (n : Nat) : Code := ((((Try.f4.body.map regs).getD []).find? (·.1 == n)).map (·.2)).getD .skip
end Go.Proofs.Ytimecmleaeimkaa
