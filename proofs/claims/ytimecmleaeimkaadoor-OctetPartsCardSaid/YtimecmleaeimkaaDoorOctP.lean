/- OctetParts' walk. -/
import Derived.Test.YtimecmleaeimkaaDoorOct9
namespace Go.Proofs.YtimecmleaeimkaaDoor
open Go.RowKit
set_option linter.unusedVariables false
attribute [local go_sem] clo

theorem byteAt_extract (s : ByteArray) (a b k : Nat) (hk : a + k < b) (hb : b ≤ s.size) : byteAt (s.extract a b) k = byteAt s (a + k) := by
  have h1 : k < (s.extract a b).size := by rw [ByteArray.size_extract]; omega
  have h2 : a + k < s.size := by omega
  unfold byteAt
  rw [dif_pos h1, dif_pos h2]
  congr 2
  exact ByteArray.getElem_extract ..
theorem partS_in (s : ByteArray) (a n : Int) (hs : s.size ≤ 65536) (ha : 0 ≤ a) (hn : 0 ≤ n) (h : a + n ≤ s.size) : partS s a n = (s.extract a.toNat (a + n).toNat, 0) := by
  unfold partS; rw [if_neg (by omega), if_neg (by omega), if_neg (by omega)]
theorem getS2 (p : ByteArray) (a : Nat) (hs : p.size ≤ 65536) (h : a + 2 ≤ p.size) : getS p a 1 = (byteAt p a * 256 + byteAt p (a + 1), 0) := by
  have hp := partS_in p a 2 hs (by omega) (by omega) (by omega)
  show (if (partS p a 2).2 = 0 then (widOf 1 (gat (partS p a 2).1 (partS p a 2).1.size), 0) else (0, (partS p a 2).2)) = _
  rw [hp, if_pos rfl]
  have hz : (p.extract a (a + 2)).size = 2 := by rw [ByteArray.size_extract]; omega
  have e1 : ((a : Int) + 2).toNat = a + 2 := by omega
  have e2 : (a : Int).toNat = a := by omega
  simp only [e1, e2, hz, gat, byteAt_extract p a (a + 2) 0 (by omega) (by omega), byteAt_extract p a (a + 2) 1 (by omega) (by omega), widOf]
  simp
theorem getS4 (p : ByteArray) (hs : p.size ≤ 65536) (h : 4 ≤ p.size) : getS p 0 2 = (((byteAt p 0 * 256 + byteAt p 1) * 256 + byteAt p 2) * 256 + byteAt p 3, 0) := by
  have hp := partS_in p 0 4 hs (by omega) (by omega) (by omega)
  show (if (partS p 0 4).2 = 0 then (widOf 2 (gat (partS p 0 4).1 (partS p 0 4).1.size), 0) else (0, (partS p 0 4).2)) = _
  rw [hp, if_pos rfl]
  have hz : (p.extract 0 4).size = 4 := by rw [ByteArray.size_extract]; omega
  have e1 : ((0 : Int) + 4).toNat = 4 := by omega
  have e2 : (0 : Int).toNat = 0 := by omega
  simp only [e1, e2, hz, gat, byteAt_extract p 0 4 0 (by omega) (by omega), byteAt_extract p 0 4 1 (by omega) (by omega), byteAt_extract p 0 4 2 (by omega) (by omega), byteAt_extract p 0 4 3 (by omega) (by omega), widOf]
  simp
theorem part_part (s : ByteArray) (a m b : Nat) (hb : b ≤ m) (h : a + m ≤ s.size) : (s.extract a (a + m)).extract b (b + (m - b)) = s.extract (a + b) (a + b + (m - b)) := by
  rw [ByteArray.extract_extract]; congr 1 <;> omega
theorem pre_append (s z : ByteArray) : Lib.hasPrefix (s ++ z).data.toList s.data.toList = true := by
  rw [ByteArray.data_append, Array.toList_append]
  simp [Lib.hasPrefix]
theorem ext_append (s z : ByteArray) : (s ++ z).extract s.size (s ++ z).size = z := by
  rw [ByteArray.size_append]; exact ByteArray.extract_append_eq_right rfl rfl
theorem trim_zero (n : Nat) : (⟨(Lib.trimB (zeroS n).data.toList 0).toArray⟩ : ByteArray) = ⟨#[]⟩ := by
  have h : (zeroS n).data.toList = List.replicate n 0 := by simp [zeroS, strOfNums]
  rw [h]
  simp [Lib.trimB, Lib.trimRightB, Lib.trimLeftB]

theorem Trim0_c (n : Nat) (hn : n ≤ 9223372036854775807) (w : World) : Calls Tryd.prog 40 #[.string (zeroS n), .string ⟨#[0]⟩] w (Ret w (.string ⟨#[]⟩)) := by
  refine (Tryd.strings_Trim_one (zeroS n) 0 (by decide) w (by rw [zeroS_size]; exact hn)).mono ?_
  rintro e w1 ⟨rfl, hb⟩
  rw [trim_zero]
  refine ⟨rfl, ?_⟩
  rcases hb with rfl | rfl
  · exact Ext.refl _
  · exact Ext.drew (Ext.refl _)
theorem padS_ok (s : ByteArray) (z : Nat) (hs : s.size ≤ 300) (h1 : 1 ≤ z) (h2 : z ≤ 64) : ∃ c : Nat, padS s z = (s ++ zeroS c, 0) ∧ (((s.size + c : Nat) : Int)) % z = 0 ∧ c < z := by
  have e0 := Int.emod_nonneg (s.size : Int) (show (z : Int) ≠ 0 by omega)
  have e1 := Int.emod_lt_of_pos (s.size : Int) (show (0 : Int) < z by omega)
  have f0 := Int.emod_nonneg ((z : Int) - s.size % z) (show (z : Int) ≠ 0 by omega)
  have f1 := Int.emod_lt_of_pos ((z : Int) - s.size % z) (show (0 : Int) < z by omega)
  refine ⟨(((z : Int) - s.size % z) % z).toNat, ?_, ?_, by omega⟩
  · unfold padS
    rw [if_neg (by omega), if_neg (by omega), if_neg (by omega)]
  · rw [Int.natCast_add, Int.toNat_of_nonneg f0, Int.add_emod, Int.emod_emod, ← Int.add_emod]
    rw [show (s.size : Int) + (z - s.size % z) = z + (s.size - s.size % z) by omega]
    rw [Int.add_emod_left]
    exact Int.emod_eq_zero_of_dvd (Int.dvd_self_sub_emod)

set_option maxHeartbeats 2000000 in
set_option maxRecDepth 100000 in
theorem OctetParts_c (S : ByteArray) (A M F K : Int) (hS : S.size ≤ 140737488351232) (hA : 0 ≤ A ∧ A ≤ 255) (hM : 0 ≤ M ∧ M ≤ 255) (hF : 0 ≤ F ∧ F ≤ 255) (hK : 0 ≤ K ∧ K ≤ 255) (w : World) :
    Calls Tryd.prog 10 #[.string S, .int .u8 A, .int .u8 M, .int .u8 F, .int .u8 K] w (Ret w (.bool true)) := by
  obtain ⟨s, es⟩ : ∃ s, S.extract 0 (min (S.size : Int) 300).toNat = s := ⟨_, rfl⟩
  have hs : s.size ≤ 300 := by rw [← es, ByteArray.size_extract]; omega
  have hn0 : 0 ≤ min (S.size : Int) 300 := by omega
  have hn1 : min (S.size : Int) 300 ≤ S.size := by omega
  have w1 : IntKind.i64.wrap A = A := IntWalk.i64_in _ (by omega)
  have w2 : IntKind.i64.wrap M = M := IntWalk.i64_in _ (by omega)
  have w3 : IntKind.i64.wrap F = F := IntWalk.i64_in _ (by omega)
  have w4 : IntKind.i64.wrap K = K := IntWalk.i64_in _ (by omega)
  obtain ⟨a, ea⟩ : ∃ a : Nat, A % ((s.size : Int) + 1) = a := ⟨(A % ((s.size : Int) + 1)).toNat, by have := Int.emod_nonneg A (show (s.size : Int) + 1 ≠ 0 by omega); omega⟩
  have ha : a ≤ s.size := by have := Int.emod_lt_of_pos A (show 0 < (s.size : Int) + 1 by omega); omega
  obtain ⟨m, em⟩ : ∃ m : Nat, M % ((s.size : Int) - a + 1) = m := ⟨(M % ((s.size : Int) - a + 1)).toNat, by have := Int.emod_nonneg M (show (s.size : Int) - a + 1 ≠ 0 by omega); omega⟩
  have hm : a + m ≤ s.size := by have := Int.emod_lt_of_pos M (show 0 < (s.size : Int) - a + 1 by omega); omega
  obtain ⟨b, eb⟩ : ∃ b : Nat, F % ((m : Int) + 1) = b := ⟨(F % ((m : Int) + 1)).toNat, by have := Int.emod_nonneg F (show (m : Int) + 1 ≠ 0 by omega); omega⟩
  have hb : b ≤ m := by have := Int.emod_lt_of_pos F (show 0 < (m : Int) + 1 by omega); omega
  obtain ⟨p, ep⟩ : ∃ p, s.extract a (a + m) = p := ⟨_, rfl⟩
  have hp : p.size = m := by rw [← ep, ByteArray.size_extract]; omega
  obtain ⟨q, eq⟩ : ∃ q, p.extract b (b + (m - b)) = q := ⟨_, rfl⟩
  have eq2 : s.extract (a + b) (a + b + (m - b)) = q := by rw [← eq, ← ep, part_part s a m b hb hm]
  have p1 : partS s a m = (p, 0) := by rw [partS_in s a m (by omega) (by omega) (by omega) (by omega), ← ep]; congr 2
  have p2 : partS p b ((m : Int) - b) = (q, 0) := by rw [partS_in p b _ (by omega) (by omega) (by omega) (by omega), ← eq]; congr 2; omega
  have p3 : partS s ((a : Int) + b) ((m : Int) - b) = (q, 0) := by rw [partS_in s _ _ (by omega) (by omega) (by omega) (by omega), ← eq2]; congr 2; omega
  have x1 : wrap64 ((s.size : Int) - a) = (s.size : Int) - a := by simp only [wrap64]; omega
  have x2 : wrap64 ((s.size : Int) - a + 1) = (s.size : Int) - a + 1 := by simp only [wrap64]; omega
  have x3 : ((s.size : Int) - a + 1 = 0) = False := by simp; omega
  have x4 : wrap64 ((m : Int) - b) = (m : Int) - b := by simp only [wrap64]; omega
  clear ep eq eq2
  obtain ⟨z, ez⟩ : ∃ z : Nat, K % 64 + 1 = z := ⟨(K % 64 + 1).toNat, by omega⟩
  have ez' : 1 + K % 64 = z := by omega
  have hz : 1 ≤ z ∧ z ≤ 64 := by omega
  have x5 : wrap64 (1 + K % 64) = (z : Int) := by simp only [wrap64]; omega
  have x6 : ((z : Int) = 0) = False := by simp; omega
  have ps := padS_ok s z (by omega) hz.1 hz.2
  obtain ⟨c, hc1, hc2, hc3⟩ := ps
  have hpre := pre_append s (zeroS c)
  have hext := ext_append s (zeroS c)
  have htrim := Trim0_c c (by omega)
  have hTs : (s ++ zeroS c).size = s.size + c := by rw [ByteArray.size_append, zeroS_size]
  obtain ⟨Z, eZ⟩ : ∃ Z, zeroS c = Z := ⟨_, rfl⟩
  rw [eZ] at hc1 hpre hext htrim hTs
  obtain ⟨T, eT⟩ : ∃ T, s ++ Z = T := ⟨_, rfl⟩
  rw [eT] at hc1 hpre hext hTs
  have hext2 : T.extract s.size (s.size + c) = Z := by rw [← hTs]; exact hext
  have hTz : (T.size : Int) % z = 0 := by rw [hTs]; exact hc2
  have x7 : decide ((s.size : Int) ≤ T.size) = true := by simp; omega
  have x8 : wrap64 ((T.size : Int) - s.size) = (c : Int) := by simp only [wrap64]; omega
  have x9 : decide ((c : Int) < z) = true := by simp; omega
  have hTb : (T.size : Int) ≤ 400 := by omega
  have HT := Hd.mk htrim
  clear eZ eT ez htrim
  have HPs := Hd.mk (⟨p1, p2, p3⟩ : partS s a m = (p, 0) ∧ partS p b ((m : Int) - b) = (q, 0) ∧ partS s ((a : Int) + b) ((m : Int) - b) = (q, 0))
  by_cases h4 : 4 ≤ m
  · have g1 : getS p 0 1 = (byteAt p 0 * 256 + byteAt p 1, 0) := getS2 p 0 (by omega) (by omega)
    have g2 : getS p 2 1 = (byteAt p 2 * 256 + byteAt p 3, 0) := getS2 p 2 (by omega) (by omega)
    have g3 := getS4 p (by omega) (by omega)
    have y0 := byteAt_bd p 0
    have y1 := byteAt_bd p 1
    have y2 := byteAt_bd p 2
    have y3 := byteAt_bd p 3
    obtain ⟨hi, ehi⟩ : ∃ hi, byteAt p 0 * 256 + byteAt p 1 = hi := ⟨_, rfl⟩
    obtain ⟨lo, elo⟩ : ∃ lo, byteAt p 2 * 256 + byteAt p 3 = lo := ⟨_, rfl⟩
    have g3' : getS p 0 2 = (hi * 65536 + lo, 0) := by rw [g3]; congr 1; omega
    rw [ehi] at g1
    rw [elo] at g2
    have hhi : 0 ≤ hi ∧ hi < 65536 := by omega
    have hlo : 0 ≤ lo ∧ lo < 65536 := by omega
    have d4 : decide ((4 : Int) ≤ m) = true := by simp; omega
    clear g3 ehi elo y0 y1 y2 y3
    go_enter Tryd.func10, Tryd.ntmps10
    go_wp2_with (first | (go_at_call 32; refine (works_c _).mono ?_; rintro e w1 ⟨rfl, hb1⟩) | (go_at_call 33; refine (Part_c _ _ _ _).mono ?_; (first | rw [p1] | rw [p2] | rw [p3]); rintro e w1 ⟨rfl, hb2⟩) | (go_at_call 34; refine (is_c _ _).mono ?_; rintro e w1 ⟨g, rfl, hc, hb3⟩) | (go_at_call 71; refine (is1_c _ _ _ _ _ (by first | assumption | exact Ext.cell (by assumption) (by assumption))).mono ?_; rintro e w1 ⟨rfl, hb4⟩) | (go_at_call 35; refine (U16_c _ _ _).mono ?_; rintro e w1 ⟨rfl, hb5⟩) | (go_at_call 37; refine (U32_c _ _ _).mono ?_; rintro e w1 ⟨rfl, hb6⟩) | (go_at_call 36; refine (says_c _ _).mono ?_; rintro e w1 ⟨g, rfl, hc, hb7⟩) | (go_at_call 74; refine (says1_c _ _ _ _ _ (by first | assumption | exact Ext.cell (by assumption) (by assumption))).mono ?_; rintro e w1 ⟨rfl, hb8⟩) | (go_at_call 38; refine (Pad_c _ _ (by omega) _).mono ?_; rintro e w1 ⟨rfl, hb9⟩) | (go_at_call 39; refine (Tryd.strings_HasPrefix _ _ _).mono ?_; rintro e w1 ⟨rfl, rfl⟩) | (go_at_call 40; (with_reducible refine (HT.out _).mono ?_); rintro e w1 ⟨rfl, hb10⟩))
    go_ret
    exact ⟨rfl, (by repeat (first | exact Ext.refl _ | assumption | apply Ext.alloc | apply Ext.drew | apply Ext.drewN | apply Ext.bytes | apply Ext.iter | refine Ext.setCell ?_ (by simp; omega) _ | refine Ext.trans ?_ (by assumption)))⟩
  · have d4 : decide ((4 : Int) ≤ m) = false := by simp; omega
    go_enter Tryd.func10, Tryd.ntmps10
    go_wp2_with (first | (go_at_call 32; refine (works_c _).mono ?_; rintro e w1 ⟨rfl, hb1⟩) | (go_at_call 33; refine (Part_c _ _ _ _).mono ?_; (first | rw [p1] | rw [p2] | rw [p3]); rintro e w1 ⟨rfl, hb2⟩) | (go_at_call 34; refine (is_c _ _).mono ?_; rintro e w1 ⟨g, rfl, hc, hb3⟩) | (go_at_call 71; refine (is1_c _ _ _ _ _ (by first | assumption | exact Ext.cell (by assumption) (by assumption))).mono ?_; rintro e w1 ⟨rfl, hb4⟩) | (go_at_call 35; refine (U16_c _ _ _).mono ?_; rintro e w1 ⟨rfl, hb5⟩) | (go_at_call 37; refine (U32_c _ _ _).mono ?_; rintro e w1 ⟨rfl, hb6⟩) | (go_at_call 36; refine (says_c _ _).mono ?_; rintro e w1 ⟨g, rfl, hc, hb7⟩) | (go_at_call 74; refine (says1_c _ _ _ _ _ (by first | assumption | exact Ext.cell (by assumption) (by assumption))).mono ?_; rintro e w1 ⟨rfl, hb8⟩) | (go_at_call 38; refine (Pad_c _ _ (by omega) _).mono ?_; rintro e w1 ⟨rfl, hb9⟩) | (go_at_call 39; refine (Tryd.strings_HasPrefix _ _ _).mono ?_; rintro e w1 ⟨rfl, rfl⟩) | (go_at_call 40; (with_reducible refine (HT.out _).mono ?_); rintro e w1 ⟨rfl, hb10⟩))
    go_ret
    exact ⟨rfl, (by repeat (first | exact Ext.refl _ | assumption | apply Ext.alloc | apply Ext.drew | apply Ext.drewN | apply Ext.bytes | apply Ext.iter | refine Ext.setCell ?_ (by simp; omega) _ | refine Ext.trans ?_ (by assumption)))⟩
end Go.Proofs.YtimecmleaeimkaaDoor
