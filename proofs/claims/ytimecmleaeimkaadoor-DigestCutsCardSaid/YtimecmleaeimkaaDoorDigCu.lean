/- DigestCuts' walk. -/
import Derived.Test.YtimecmleaeimkaaDoorDigPe
import Derived.Test.YtimecmleaeimkaaDoorBase6
import Derived.Deep.Heap
namespace Go.Proofs.YtimecmleaeimkaaDoor
open Go.RowKit
open Go.Deep (blk_setCell_other)
set_option linter.unusedVariables false
theorem cuts_short (S L : ByteArray) (n : Nat) : (longS S L n false).size ≤ 4000 := by
  unfold longS
  rw [ByteArray.size_append, repS_size, cut300_size L]
  have : cntS (cut300 S).size n false * (cut300 S).size ≤ 3700 := by
    unfold cntS
    have h1 : 3700 / max (cut300 S).size 1 * max (cut300 S).size 1 ≤ 3700 := Nat.div_mul_le_self _ _
    have h2 : min n ((if false = true then 65400 else 3700) / max (cut300 S).size 1) * (cut300 S).size ≤ 3700 / max (cut300 S).size 1 * max (cut300 S).size 1 := Nat.mul_le_mul (by simp only [Bool.false_eq_true, if_false]; exact Nat.min_le_right _ _) (Nat.le_max_left _ _)
    omega
  omega
/-- The first k octets, and the others. -/
def fst (s : ByteArray) (k : Nat) : ByteArray := s.extract 0 k
def snd (s : ByteArray) (k : Nat) : ByteArray := s.extract k s.size
theorem fst_size (s : ByteArray) (k : Nat) (h : k ≤ s.size) : (fst s k).size = k := by unfold fst; rw [ByteArray.size_extract]; omega
theorem snd_size (s : ByteArray) (k : Nat) : (snd s k).size = s.size - k := by unfold snd; rw [ByteArray.size_extract]; omega
theorem fst_0 (s : ByteArray) : fst s 0 = ⟨#[]⟩ := by
  apply ByteArray.ext
  refine Array.eq_empty_of_size_eq_zero ?_
  show (fst s 0).size = 0
  rw [fst_size s 0 (by omega)]
theorem snd_0 (s : ByteArray) : snd s 0 = s := by unfold snd; exact ByteArray.extract_zero_size
theorem fst_next (s : ByteArray) (k n : Nat) (h : k + n ≤ s.size) : fst s k ++ (snd s k).extract 0 n = fst s (k + n) := by
  unfold fst snd
  rw [ByteArray.extract_extract]
  apply ByteArray.ext
  simp only [ByteArray.data_append, ByteArray.data_extract]
  rw [show min (k + n) s.size = k + n by omega, Nat.add_zero, Array.extract_append_extract, Nat.min_eq_left (by omega), Nat.max_eq_right (by omega)]
theorem snd_next (s : ByteArray) (k n : Nat) (h : k + n ≤ s.size) : (snd s k).extract n (snd s k).size = snd s (k + n) := by
  rw [snd_size]
  unfold snd
  rw [ByteArray.extract_extract]
  congr 1
  omega
theorem fst_snd (s : ByteArray) (k : Nat) (h : k ≤ s.size) : fst s k ++ snd s k = s := by
  unfold fst snd
  apply ByteArray.ext
  simp only [ByteArray.data_append, ByteArray.data_extract]
  rw [Array.extract_append_extract, Nat.min_eq_left (by omega), Nat.max_eq_right (by omega)]
  exact (Array.extract_size (xs := s.data))
theorem suffix_tl (s : ByteArray) : Lib.hasSuffix s.data.toList (tl s).data.toList = true := by
  obtain ⟨a, ha⟩ := tl_rest s s
  have : s.data.toList = a.data.toList ++ (tl s).data.toList := by
    conv => lhs; rw [ha]
    rw [ByteArray.data_append, Array.toList_append]
  rw [this]
  unfold Lib.hasSuffix
  rw [List.isSuffixOf_iff_suffix]
  exact List.suffix_append _ _
theorem rowC_list (f : Nat → Int) : rowF f = (((List.range 16).map f).map (Value.int .u8)).toArray := by unfold rowF; rw [List.map_map]; rfl
theorem eql_rowC (f : Nat → Int) (w : World) : (binOp .eql 28 (.agg (rowF f)) (.agg (rowF f))).run Tryd.prog w = .ok (.bool true) w := by
  rw [rowC_list, run_eql_ints w .u8 28 5 16 Tryd.underlying28 Tryd.underlying5 (fun w => by kernel_rfl) _ _ (by simp) (by simp)]
  simp
/-- The row of the digest in progress behind k octets. -/
def rowK (X : ByteArray) (k : Nat) : Array Value := dgL (stt (fst X k)).x (stt (fst X k)).l (stt (fst X k)).r
theorem rowK_size (X : ByteArray) (k : Nat) : (rowK X k).size = 6 := rfl
theorem rowK_one (X : ByteArray) (k : Nat) : (rowK X k).all (·.oneCell') = true := dgL_one _ _ _
theorem rowK_at4 (X : ByteArray) (k : Nat) (h : k ≤ X.size) : (rowK X k)[4]? = some (.int .i64 k) := by
  show some (Value.int .i64 ((fst X k).size : Int)) = _
  rw [fst_size X k h]
theorem rowK_at5 (X : ByteArray) (k : Nat) : (rowK X k)[5]? = some (.string (tl (fst X k))) := rfl
theorem rowK_0 (X : ByteArray) : rowK X 0 = dgL begin4 0 ⟨#[]⟩ := by unfold rowK; rw [fst_0, stt_none]; rfl
theorem cut_more (X : ByteArray) (hX : X.size ≤ 4000) (k n : Nat) (h : k + n ≤ X.size) (w : World) : Calls Tryd.prog 23 #[.agg (rowK X k), .string ((snd X k).extract 0 n)] w (Ret w (.tuple #[.agg (rowK X (k + n)), .int .i64 0])) := by
  have hs : ((snd X k).extract 0 n).size = n := by rw [ByteArray.size_extract, snd_size]; omega
  have hk := fst_size X k (by omega)
  have h1 := moreP_c (stt (fst X k)) ((snd X k).extract 0 n) (by show (tl _).size ≤ _; rw [tl_size]; omega) (by omega) w
  rw [more_stt _ _ (by omega), fst_next X k n h] at h1
  exact h1
theorem cut_all (X : ByteArray) (hX : X.size ≤ 4000) (k : Nat) (h : k ≤ X.size) (w : World) : Calls Tryd.prog 23 #[.agg (rowK X k), .string (snd X k)] w (Ret w (.tuple #[.agg (rowK X X.size), .int .i64 0])) := by
  have hk := fst_size X k h
  have h1 := moreP_c (stt (fst X k)) (snd X k) (by show (tl _).size ≤ _; rw [tl_size]; omega) (by rw [snd_size]; omega) w
  rw [more_stt _ _ (by rw [snd_size]; omega), fst_snd X k h] at h1
  have e : rowK X X.size = dgL (stt X).x (stt X).l (stt X).r := by unfold rowK; rw [show fst X X.size = X from ByteArray.extract_zero_size]
  rw [e]
  exact h1
theorem cut_check (X : ByteArray) (hX : X.size ≤ 4000) (k : Nat) (h : k ≤ X.size) (w : World) : Calls Tryd.prog 26 #[.agg (rowK X k)] w (Ret w (.int .i64 0)) := by
  have h1 := checkP_c (stt (fst X k)).x (stt (fst X k)).l (stt (fst X k)).r w
  rw [check_stt _ (by rw [fst_size X k h]; omega)] at h1
  exact h1
theorem cut_done (X : ByteArray) (hX : X.size ≤ 4000) (w : World) : Calls Tryd.prog 24 #[.agg (rowK X X.size)] w (Ret w (.tuple #[.agg (rowF (sumF X)), .int .i64 0])) := by
  have e : fst X X.size = X := ByteArray.extract_zero_size
  have h1 := doneP_c (stt X) w
  rw [done_stt _ (by omega), sumS_row, sumS_ok (by omega)] at h1
  have e2 : rowK X X.size = dgL (stt X).x (stt X).l (stt X).r := by unfold rowK; rw [e]
  rw [e2]
  exact h1
set_option maxHeartbeats 4000000 in
set_option maxRecDepth 100000 in
theorem DigestCuts_c (S L : ByteArray) (hS : S.size ≤ 9223372036854775807) (hL : L.size ≤ 9223372036854775807) (n : Nat) (hn : n < 65536) (A : Option Addr) (m cap : Nat) (hm : m ≤ cap) (hcap : cap ≤ 9223372036854775807) (w : World)
    (hA : A = none → m = 0 ∧ cap = 0) (hc : ∀ i, i < m → ∃ a c, A = some a ∧ 0 ≤ c ∧ c < 256 ∧ w.cell? (a.add i) = some (.int .u8 c)) :
    Calls Tryd.prog 9 #[.agg #[.string S, .string L, .int .u16 n], .slice A m cap] w (Ret w (.bool true)) := by
  have hO := fun w => octets_c S L hS hL n hn false w
  have hxs := cuts_short S L n
  generalize longS S L n false = X at *
  have hP := fun w => sumP_c X (by omega) w
  rw [sumS_row, sumS_ok (by omega)] at hP
  have hCD := cut_done X hxs
  have hqT := eql_rowC (sumF X)
  have hTs := rowF_size (sumF X)
  have hTo := rowF_one (sumF X)
  generalize rowF (sumF X) = T at *
  have hN := fun w => newP_c w
  unfold dgV at hN
  rw [← rowK_0 X] at hN
  have HO := Hd.mk hO
  have HP := Hd.mk hP
  have HCD := Hd.mk hCD
  have HN := Hd.mk hN
  have Hts := Hd.mk hTs
  have Hto := Hd.mk hTo
  have HC := Hd.mk hc
  clear hO hP hCD hN hTs hTo hc
  go_enter Tryd.func9, Tryd.ntmps9
  have K0 := Hd.mk (heap_alloc_new w (.cells #[.string S, .string L, .int .u16 n] 24))
  go_upto_region 8 with (first | (go_at_call 11; refine (works_c _).mono ?_; rintro e w1 ⟨rfl, hb1⟩; have K1 := Hd.mk (Ext.blk hb1 K0.out)) | (refine wpList_load_row rfl _ _ rfl w.heap.size rfl _ #[.string S, .string L, .int .u16 n] (0, 0) _ K1.out Tryd.underlying24 rfl (by kernel_rfl) ?_) | (go_at_call 12; refine (HO.out _).mono ?_; rintro e w2 ⟨rfl, hb2⟩) | (go_at_call 13; refine (HP.out _).mono ?_; rintro e w3 ⟨rfl, hb3⟩; have r6_0 := Hd.mk (heap_alloc_new w3 (.cells (Array.replicate 16 (Value.int .u8 0)) 28)); have r6 := Hd.mk (setRow_heap _ _ _ T _ _ r6_0.out)) | (refine wpList_store_row rfl _ _ _ rfl w3.heap.size T rfl rfl _ _ r6_0.out (by rw [Hts.out]; kernel_rfl) (by rw [Hts.out]; rfl) Hto.out ?_) | (go_at_call 21; refine (HN.out _).mono ?_; rintro e w4 ⟨rfl, hb4⟩; have q6 := Hd.mk (Ext.blk hb4 r6.out); have r8_0 := Hd.mk (heap_alloc_new w4 (.cells #[.int .i64 0, .int .i64 0, .int .i64 0, .int .i64 0, .int .i64 0, .string ⟨#[]⟩] 41)); have r8 := Hd.mk (setRow_heap _ _ _ (rowK X 0) _ _ r8_0.out); have s6 := Hd.mk (Ext.blk (Ext.setRow (Ext.alloc (Ext.refl w4) (.cells #[.int .i64 0, .int .i64 0, .int .i64 0, .int .i64 0, .int .i64 0, .string ⟨#[]⟩] 41)) (Nat.le_refl _) (rowK X 0)) q6.out)) | (refine wpList_store_row rfl _ _ _ rfl w4.heap.size (rowK X 0) rfl rfl _ _ r8_0.out (by rw [rowK_size]; kernel_rfl) (by rw [rowK_size]; rfl) (rowK_one _ _) ?_))
  have e3 : Ext w w3 := Ext.trans (Ext.trans (Ext.trans (Ext.alloc (Ext.refl _) _) hb1) hb2) hb3
  have e3' : Ext w ((w3.alloc (.cells (Array.replicate 16 (Value.int .u8 0)) 28)).setRow w3.heap.size T) := Ext.setRow (Ext.alloc e3 (.cells (Array.replicate 16 (Value.int .u8 0)) 28)) (Ext.size e3) T
  have e4 := Ext.trans e3' hb4
  have e4' : Ext w ((w4.alloc (.cells #[.int .i64 0, .int .i64 0, .int .i64 0, .int .i64 0, .int .i64 0, .string ⟨#[]⟩] 41)).setRow w4.heap.size (rowK X 0)) := Ext.setRow (Ext.alloc e4 (.cells #[.int .i64 0, .int .i64 0, .int .i64 0, .int .i64 0, .int .i64 0, .string ⟨#[]⟩] 41)) (Ext.size e4) (rowK X 0)
  have hgw : w.heap.size ≤ w4.heap.size := Ext.size e4
  have h68 : w3.heap.size ≠ w4.heap.size := by have := row_lt q6.out; omega
  obtain ⟨g8, eg8⟩ : ∃ g, w4.heap.size = g := ⟨_, rfl⟩
  obtain ⟨g6, eg6⟩ : ∃ g, w3.heap.size = g := ⟨_, rfl⟩
  simp only [eg8, eg6]
  refine wp_name fun W4 hW4 => ?_
  have hE4 : Ext w W4 := by rw [hW4.out, ← eg8]; exact e4'
  have R8 : W4.heap[g8]? = some (.cells (rowK X 0) 41 (0, 0)) := by rw [hW4.out, ← eg8]; exact r8.out
  have R6 := Hd.mk (show W4.heap[g6]? = some (.cells T 28 (0, 0)) by rw [hW4.out, ← eg8, ← eg6]; exact s6.out)
  rw [eg8] at hgw h68
  rw [eg6] at h68
  clear hW4 eg8 eg6 e3 e3' e4 e4' hb1 hb2 hb3 hb4 r6_0 r6 q6 r8_0 r8 s6 K0 K1
  obtain ⟨q, eq⟩ : ∃ q, min m 30 = q := ⟨_, rfl⟩
  have q0 : min (m : Int) 30 = (q : Int) := by omega
  have hq1 : 0 ≤ (q : Int) ∧ (q : Int) ≤ cap := by omega
  have hqm : q ≤ m := by omega
  clear eq
  go_upto_region 10 with fail
  go_loopw [7, 9, 34] (fun ve vr vi wr => ∃ i k : Nat, i ≤ q ∧ k ≤ X.size ∧ ve = .int .i64 0 ∧ vr = .string (snd X k) ∧ vi = .int .i64 i ∧ Exts (· = g8) W4 wr ∧ wr.heap[g8]? = some (.cells (rowK X k) 41 (0, 0))) (fun _ _ vi _ => q - (intOf vi).toNat)
  case atStart => exact ⟨0, 0, by omega, by omega, rfl, by rw [snd_0], rfl, Exts.refl _, R8⟩
  case round =>
    obtain ⟨i, k, hi, hk, rfl, rfl, rfl, hEk, hrow⟩ := hrel
    have Hrow := Hd.mk hrow
    by_cases hlt : i < q
    · have hlti : (i : Int) < q := by omega
      obtain ⟨a, c, rfl, hc0, hc1, hcell⟩ := HC.out i (by omega)
      have hbl := World.block_lt_of_cell? w _ hcell
      have hcw : wr.cell? (a.add i) = some (.int .u8 c) := hEk.cell (Ext.cell hE4 hcell) (by show ¬ (a.add i).block = g8; omega)
      obtain ⟨cn, rfl⟩ := Int.eq_ofNat_of_zero_le hc0
      have hys := snd_size X k
      obtain ⟨d, ed⟩ : ∃ d, min cn (snd X k).size = d := ⟨_, rfl⟩
      have hkd : k + d ≤ X.size := by omega
      have md : min (cn : Int) ((snd X k).size : Int) = (d : Int) := by omega
      have hd1 : 0 ≤ (d : Int) ∧ (d : Int) ≤ (snd X k).size := by omega
      have wcn : IntKind.i64.wrap (cn : Int) = (cn : Int) := by rw [IntWalk.i64_in _ (by omega)]
      have hM := cut_more X hxs k d hkd
      have hK := cut_check X hxs (k + d) hkd
      have hsn := snd_next X k d hkd
      have h4 := tl_size (fst X (k + d))
      have h64 : ¬ (64 : Int) ≤ ((tl (fst X (k + d))).size : Int) := by omega
      have hR5 := Hd.mk (rowK_at5 X (k + d))
      have Hxs := Hd.mk (rowK_size X k)
      have Hys := Hd.mk (rowK_size X (k + d))
      have Hyo := Hd.mk (rowK_one X (k + d))
      generalize tl (fst X (k + d)) = tt at *
      generalize hy2 : snd X (k + d) = y2 at *
      generalize hRY : rowK X (k + d) = RY at *
      have Hy2 := Hd.mk hy2
      have HRY := Hd.mk hRY
      clear hy2 hRY
      generalize rowK X k = RX at *
      generalize snd X k = y at *
      have HM := Hd.mk hM
      have HK := Hd.mk hK
      clear hM hK hcell hbl ed hys h4 hrow hc0
      go_upto_region 13 with fail
      refine wp_region_o (Ext wr) [8] (fun _ _ => False) [[0, 1, 2, 3, 4, 5, 6, 7, 8, 9]] (by kernel_rfl) (by kernel_rfl) (by repeat (first | exact Ext.refl _ | assumption | apply Ext.alloc | apply Ext.drew | apply Ext.drewN | apply Ext.bytes | apply Ext.iter | refine Ext.setCell ?_ (by simp; omega) _ | refine Ext.trans ?_ (by assumption))) (fun _ _ _ h => h.elim) ?_
      intro s hs
      simp only [List.mem_cons, List.not_mem_nil, or_false] at hs
      subst hs
      (repeat (first
       | (refine wpD_still rfl rfl rfl (still_load_row _ _ rfl g8 rfl _ RX (0, 0) _ (fun w hw => Ext.blk hw Hrow.out) Tryd.underlying41 rfl (by rw [Hxs.out]; kernel_rfl)) rfl ?_; ((try simp only [List.getElem_toArray]); (try simp only [List.getElem_cons_succ]); (try simp only [List.getElem_cons_zero]); (try simp only [Act.put, List.setIfInBounds_toArray, List.set_cons_zero, List.set_cons_succ])))
       | (apply wpD_pure; exact rfl; exact rfl; exact rfl; (intro w'; (try simp only [List.getElem_toArray]); (try simp only [List.getElem_cons_succ]); (try simp only [List.getElem_cons_zero]); go_simp; first | done | exact rfl); ((try simp only [List.getElem_toArray]); (try simp only [List.getElem_cons_succ]); (try simp only [List.getElem_cons_zero]); (try simp only [Act.put, List.setIfInBounds_toArray, List.set_cons_zero, List.set_cons_succ])))
       | (refine wpD_busy rfl rfl rfl ?_; (try simp only [List.getElem_toArray]); (try simp only [List.getElem_cons_succ]); (try simp only [List.getElem_cons_zero]); go_simp; go_at_call 23; refine (HM.out _).mono ?_; rintro e wx ⟨rfl, hbx⟩; (first | refine .inl ⟨_, rfl, (by first | exact .inr (by repeat (first | exact Ext.refl _ | assumption | apply Ext.alloc | apply Ext.drew | apply Ext.drewN | apply Ext.bytes | apply Ext.iter | refine Ext.setCell ?_ (by simp; omega) _ | refine Ext.trans ?_ (by assumption))) | exact (by repeat (first | exact Ext.refl _ | assumption | apply Ext.alloc | apply Ext.drew | apply Ext.drewN | apply Ext.bytes | apply Ext.iter | refine Ext.setCell ?_ (by simp; omega) _ | refine Ext.trans ?_ (by assumption)))), ?_⟩ | refine ⟨_, rfl, (by first | exact .inr (by repeat (first | exact Ext.refl _ | assumption | apply Ext.alloc | apply Ext.drew | apply Ext.drewN | apply Ext.bytes | apply Ext.iter | refine Ext.setCell ?_ (by simp; omega) _ | refine Ext.trans ?_ (by assumption))) | exact (by repeat (first | exact Ext.refl _ | assumption | apply Ext.alloc | apply Ext.drew | apply Ext.drewN | apply Ext.bytes | apply Ext.iter | refine Ext.setCell ?_ (by simp; omega) _ | refine Ext.trans ?_ (by assumption)))), ?_⟩); ((try simp only [List.getElem_toArray]); (try simp only [List.getElem_cons_succ]); (try simp only [List.getElem_cons_zero]); (try simp only [Act.put, List.setIfInBounds_toArray, List.set_cons_zero, List.set_cons_succ])))))
      have hrx := Hd.mk (Ext.blk (Ext.trans (Ext.drew (Ext.refl wr)) hbx) Hrow.out)
      refine wpD_store_row _ _ _ rfl rfl rfl rfl g8 RY rfl rfl _ _ hrx.out (by rw [Hys.out]; kernel_rfl) (by rw [Hxs.out, Hys.out]) Hyo.out (.inl rfl) ?_
      (repeat (first
       | (apply wpD_pure; exact rfl; exact rfl; exact rfl; (intro w'; (try simp only [List.getElem_toArray]); (try simp only [List.getElem_cons_succ]); (try simp only [List.getElem_cons_zero]); go_simp; first | done | exact rfl); ((try simp only [List.getElem_toArray]); (try simp only [List.getElem_cons_succ]); (try simp only [List.getElem_cons_zero]); (try simp only [Act.put, List.setIfInBounds_toArray, List.set_cons_zero, List.set_cons_succ])))))
      refine wpD_nil fun Wf hWf => ?_
      have hEf : Exts (· = g8) W4 Wf := by rw [hWf.out]; exact Exts.setRow (Exts.then hEk (Ext.trans (Ext.drew (Ext.refl wr)) hbx)) (.inl rfl) _
      have hrf := Hd.mk (show Wf.heap[g8]? = some (.cells RY 41 (0, 0)) by rw [hWf.out]; exact setRow_heap _ _ _ _ _ _ hrx.out)
      clear hWf hrx hbx Hrow hEk
      go_wp2_with (first | (refine wpList_load_row_w rfl _ _ rfl g8 rfl _ RY (0, 0) _ hrf.out Tryd.underlying41 rfl (by rw [Hys.out]; kernel_rfl) ?_) | (go_at_call 26; refine (HK.out _).mono ?_; rintro e wk ⟨rfl, hbk⟩; have hrk := Hd.mk (Ext.blk hbk hrf.out); have c5 := row_cell hrk.out hR5.out))
      refine ⟨⟨i + 1, k + d, by omega, hkd, rfl, by rw [Hy2.out], by go_num, Exts.then hEf hbk, by rw [HRY.out]; exact hrk.out⟩, ?_⟩
      simp [intOf]
      omega
    · obtain rfl : i = q := by omega
      have hM := cut_all X hxs k hk
      have hH := fun w => Tryd.strings_HasSuffix X (tl X) w (by omega)
      rw [suffix_tl X] at hH
      have hR4 := Hd.mk (rowK_at4 X X.size (Nat.le_refl _))
      have hR5 := Hd.mk (show (rowK X X.size)[5]? = some (.string (tl X)) by rw [rowK_at5, show fst X X.size = X from ByteArray.extract_zero_size])
      have Hxs := Hd.mk (rowK_size X k)
      have Hys := Hd.mk (rowK_size X X.size)
      have Hyo := Hd.mk (rowK_one X X.size)
      have R6' := Hd.mk (hEk.blk R6.out h68)
      generalize tl X = tt at *
      generalize rowK X X.size = RY at *
      generalize rowK X k = RX at *
      generalize snd X k = y at *
      have HM := Hd.mk hM
      have HH := Hd.mk hH
      clear hM hH hrow
      go_upto_region 20 with (first | (refine wpList_load_row rfl _ _ rfl g8 rfl _ RX (0, 0) _ Hrow.out Tryd.underlying41 rfl (by rw [Hxs.out]; kernel_rfl) ?_) | (go_at_call 23; refine (HM.out _).mono ?_; rintro e wx ⟨rfl, hbx⟩; have hrx := Hd.mk (Ext.blk hbx Hrow.out); have hrf := Hd.mk (setRow_heap _ _ _ RY _ _ hrx.out); have R6x := Hd.mk ((setRow_other wx g8 g6 RY (by omega)).trans (Ext.blk hbx R6'.out))) | (refine wpList_store_row rfl _ _ _ rfl g8 RY rfl rfl _ _ hrx.out (by rw [Hys.out]; kernel_rfl) (by rw [Hxs.out, Hys.out]) Hyo.out ?_) | (refine wpList_load_row rfl _ _ rfl g8 rfl _ RY (0, 0) _ hrf.out Tryd.underlying41 rfl (by rw [Hys.out]; kernel_rfl) ?_) | (go_at_call 24; refine (HCD.out _).mono ?_; rintro e wd ⟨rfl, hbd⟩; have hrd := Hd.mk (Ext.blk hbd hrf.out); have R6d := Hd.mk (Ext.blk hbd R6x.out); have r13_0 := Hd.mk (heap_alloc_new wd (.cells (Array.replicate 16 (Value.int .u8 0)) 28)); have r13 := Hd.mk (setRow_heap _ _ _ T _ _ r13_0.out); have hrd2 := Hd.mk (Ext.blk (Ext.setRow (Ext.alloc (Ext.refl wd) (.cells (Array.replicate 16 (Value.int .u8 0)) 28)) (Nat.le_refl _) T) hrd.out); have R6e := Hd.mk (Ext.blk (Ext.setRow (Ext.alloc (Ext.refl wd) (.cells (Array.replicate 16 (Value.int .u8 0)) 28)) (Nat.le_refl _) T) R6d.out)) | (refine wpList_store_row rfl _ _ _ rfl wd.heap.size T rfl rfl _ _ r13_0.out (by rw [Hts.out]; kernel_rfl) (by rw [Hts.out]; rfl) Hto.out ?_))
      have hEr : Ext w wr := (Exts.mono (T := fun _ => False) (Exts.trans (S := (· = g8)) hE4.exts hEk) (fun k hk h => by omega)).ext (fun _ h => h.elim)
      have x1 : Ext w (wx.setRow g8 RY) := Ext.setRow (Ext.trans hEr hbx) hgw _
      have x2 := Ext.trans x1 hbd
      have x3 : Ext w ((wd.alloc (.cells (Array.replicate 16 (Value.int .u8 0)) 28)).setRow wd.heap.size T) := Ext.setRow (Ext.alloc x2 (.cells (Array.replicate 16 (Value.int .u8 0)) 28)) (Ext.size x2) T
      obtain ⟨g13, eg13⟩ : ∃ g, wd.heap.size = g := ⟨_, rfl⟩
      refine wp_name fun W9 hW9 => ?_
      rw [show ((wd.alloc (.cells (Array.replicate 16 (Value.int .u8 0)) 28)).setRow wd.heap.size T) = W9 from hW9.out.symm] at r13 hrd2 R6e x3
      simp only [eg13]
      rw [eg13] at r13
      have c4 := row_cell hrd2.out hR4.out
      have c5 := row_cell hrd2.out hR5.out
      clear hW9 eg13 r13_0 hrd R6d hrf R6x hrx
      go_wp2_with (first | (refine wpList_load_row_w rfl _ _ rfl g13 rfl _ T (0, 0) _ r13.out Tryd.underlying28 rfl (by rw [Hts.out]; kernel_rfl) ?_) | (refine wpList_load_row_w rfl _ _ rfl g6 rfl _ T (0, 0) _ R6e.out Tryd.underlying28 rfl (by rw [Hts.out]; kernel_rfl) ?_) | (go_at_call 31; refine (HH.out _).mono ?_; rintro e wz ⟨rfl, rfl⟩))
      go_ret
      exact ⟨rfl, x3⟩
end Go.Proofs.YtimecmleaeimkaaDoor
