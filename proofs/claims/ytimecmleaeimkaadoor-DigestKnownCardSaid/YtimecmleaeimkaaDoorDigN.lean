/- Package digest: Done and Sum. -/
import Derived.Test.YtimecmleaeimkaaDoorDigQ
namespace Go.Proofs.YtimecmleaeimkaaDoor
open Go.RowKit
set_option linter.unusedVariables false
attribute [local go_sem] q32 q64
attribute [local go_sem] Oper.semAt_some
theorem oct16_trow (y : Q4) : oct16 y.a y.b y.c y.d = trow y 16 := by
  unfold oct16 trow
  simp [oc, qn, List.range, List.range.loop]
set_option maxHeartbeats 4000000 in
set_option maxRecDepth 100000 in
theorem doneP_c (d : Dg) (w : World) : Calls Tryd.prog 24 #[d.v] w (Ret w (.tuple #[.agg (doneS d).1, .int .i64 (doneS d).2])) := by
  obtain ⟨x, l, r⟩ := d
  have hR := checkP_c x l r
  have HR := Hd.mk hR
  clear hR
  cases hrt : rightB x l r
  · have HM := Hd.mk (show doneS ⟨x, l, r⟩ = (row0, 80) by unfold doneS; rw [if_pos hrt])
    have hc : checkS x l r = 80 := by unfold checkS; rw [hrt]; rfl
    rw [hc] at HR
    clear hrt hc
    unfold Dg.v dgV dgL
    unfold dgV dgL at HR
    go_enter Tryd.func24, Tryd.ntmps24
    go_wp2_with (first | (go_at_call 26; refine (HR.out _).mono ?_; rintro e w1 ⟨rfl, hb⟩; have hrow := Hd.mk (show w1.heap[w.heap.size + 1]? = some (.cells row0 28 (0, 0)) from Ext.blk hb (heap_new _ _ (World.size_alloc _ _)))) | (refine wpList_store_row rfl _ _ _ rfl (w.heap.size + 1) row0 rfl rfl _ _ hrow.out (by kernel_rfl) rfl row0_one ?_))
    refine bodyPost_ret (results_row_tmp Tryd.results24 _ _ (w.heap.size + 1) _ _ _ _ (.int .i64 80) rfl (setRow_heap _ _ _ _ _ _ hrow.out) Tryd.underlying28 rfl (by kernel_rfl) rfl) rfl ?_
    exact ⟨by first | (rw [HM.out]; done) | (rw [HM.out]; rfl), Ext.setRow (by repeat (first | exact Ext.refl _ | assumption | apply Ext.alloc | apply Ext.drew | apply Ext.drewN | apply Ext.bytes | apply Ext.iter | refine Ext.setCell ?_ (by simp; omega) _ | refine Ext.trans ?_ (by assumption))) (by omega) _⟩
  obtain ⟨hxU, hl0, hl1, hrl⟩ := (rightB_iff x l r).1 hrt
  have hc : checkS x l r = 0 := by unfold checkS; rw [hrt]; rfl
  rw [hc] at HR
  have HM := Hd.mk (show doneS ⟨x, l, r⟩ = (trow (digS (fin r l.toNat) x) 16, 0) by unfold doneS; rw [if_neg (by rw [hrt]; decide)])
  obtain ⟨n, rfl⟩ := Int.eq_ofNat_of_zero_le hl0
  simp only [Int.toNat_natCast] at HM
  have hF := endP_c n (by omega)
  have hfe := fin_end r n (by omega)
  have hes := endS_size n
  have hfc : finC n < 64 := by unfold finC; omega
  have hu := used_c x.a x.b x.c x.d
  change ∀ w, Calls _ _ _ w (Ret w (q32 (modQ x).a (modQ x).b (modQ x).c (modQ x).d)) at hu
  rw [modQ_id hxU] at hu
  have HU := Hd.mk hu
  have HxU := Hd.mk hxU
  rw [← hfe] at HM
  have hya := ych_all (r ++ endS n) x
  have hyU := ych_U (z := r ++ endS n) hxU
  have hle : r.size + (endS n).size ≤ 9223372036854775807 := by omega
  have hall2 : (r ++ endS n).size ≤ 200000 := by rw [ByteArray.size_append]; omega
  generalize hE0 : endS n = en at *
  have HF := Hd.mk hF
  generalize hall : r ++ en = all at *
  have Hya := Hd.mk hya
  have HyU := Hd.mk hyU
  have hle3 : ¬ 9223372036854775807 < r.size + en.size := by omega
  clear hrt hrl hxU hc hya hyU hu hF hfe hes hE0 hfc
  unfold Dg.v dgV dgL
  unfold dgV dgL at HR
  unfold q32 q64 at HU
  refine calls_of_wp_marks Tryd.func24 rfl ?_
  simp only [Tryd.ntmps24, List.size_toArray, List.length_cons, List.length_nil, Nat.reduceAdd, Nat.reduceSub, Array.replicate_succ, Array.replicate_zero, List.push_toArray, List.append_toArray, List.nil_append, List.cons_append]
  go_upto_region 5 with (first | (go_at_call 26; refine (HR.out _).mono ?_; rintro e w1 ⟨rfl, hb⟩; have hrow := Hd.mk (show w1.heap[w.heap.size + 1]? = some (.cells row0 28 (0, 0)) from Ext.blk hb (heap_new _ _ (World.size_alloc _ _))); have hrd := Ext.blk hb (Ext.blk (Ext.alloc (Ext.refl _) _) (heap_alloc_new _ _)); have hl0' := row_cell hrd (j := 0) (v := .int .i64 x.a) rfl; have hl1' := row_cell hrd (j := 1) (v := .int .i64 x.b) rfl; have hl2' := row_cell hrd (j := 2) (v := .int .i64 x.c) rfl; have hl3' := row_cell hrd (j := 3) (v := .int .i64 x.d) rfl; have Hrd := Hd.mk hrd; clear hrd) | (go_at_call 52; refine (HU.out _).mono ?_; rintro e w2 ⟨rfl, hb2⟩))
  refine wp_name fun W hW => ?_
  have hE2 : Ext w w2 := (by repeat (first | exact Ext.refl _ | assumption | apply Ext.alloc | apply Ext.drew | apply Ext.drewN | apply Ext.bytes | apply Ext.iter | refine Ext.setCell ?_ (by simp; omega) _ | refine Ext.trans ?_ (by assumption)))
  have hEW : Ext w2 W := by rw [hW.out]; exact (by repeat (first | exact Ext.refl _ | assumption | apply Ext.alloc | apply Ext.drew | apply Ext.drewN | apply Ext.bytes | apply Ext.iter | refine Ext.setCell ?_ (by simp; omega) _ | refine Ext.trans ?_ (by assumption)))
  have rG := Hd.mk (show W.heap[w2.heap.size]? = some (.cells (q32L x) 90 (0, 0)) by rw [hW.out]; exact Ext.blk (Ext.alloc (Ext.refl _) _) (heap_alloc_new _ _))
  have rP := Hd.mk (show W.heap[w2.heap.size + 1]? = some (.cells #[.pointer (some ⟨w2.heap.size, 0, none⟩)] 87 (0, 0)) by rw [hW.out]; exact heap_new _ _ (by simp))
  have rD := Hd.mk (Ext.blk hEW (Ext.blk hb2 Hrd.out))
  have rR := Hd.mk (Ext.blk hEW (Ext.blk hb2 hrow.out))
  have s2 : w.heap.size + 1 < w2.heap.size := row_lt (Ext.blk hb2 hrow.out)
  have hEwW : Ext w W := Ext.trans hE2 hEW
  clear hW hl0' hl1' hl2' hl3' Hrd hrow hb hb2 hE2 hEW HU HR
  refine wp_region_x (DgC (fun _ => False) W w.heap.size x n r) false (by kernel_rfl) (by kernel_rfl) (DgC.of rD.out (fun h => h) _ (Exts.drew (Exts.refl _))) ?_
  (repeat (first
     | (refine wpX_skip rfl ?_; (try simp only [Act.put, List.setIfInBounds_toArray, List.set_cons_zero, List.set_cons_succ]))
     | (apply wpX_still; exact rfl; exact rfl; (rintro w' ⟨hw', f0, f1, f2, f3, f4, f5⟩; go_simp; first | done | exact rfl); (try simp only [Act.put, List.setIfInBounds_toArray, List.set_cons_zero, List.set_cons_succ]))))
  (refine wpX_busy rfl rfl ?_; go_simp; go_at_call 55; refine (HF.out _).mono ?_; rintro e wa ⟨rfl, hba⟩; refine ⟨_, rfl, DgC.of rD.out (fun h => h) _ (Ext.exts (by repeat (first | exact Ext.refl _ | assumption | apply Ext.alloc | apply Ext.drew | apply Ext.drewN | apply Ext.bytes | apply Ext.iter | refine Ext.setCell ?_ (by simp; omega) _ | refine Ext.trans ?_ (by assumption)))), ?_⟩; (try simp only [Act.put, List.setIfInBounds_toArray, List.set_cons_zero, List.set_cons_succ]))
  (repeat (first
     | (refine wpX_skip rfl ?_; (try simp only [Act.put, List.setIfInBounds_toArray, List.set_cons_zero, List.set_cons_succ]))
     | (apply wpX_still; exact rfl; exact rfl; (rintro w' ⟨hw', f0, f1, f2, f3, f4, f5⟩; go_simp; first | done | exact rfl); (try simp only [Act.put, List.setIfInBounds_toArray, List.set_cons_zero, List.set_cons_succ]))))
  (refine wpX_busy rfl rfl ?_; go_simp; go_at_call 54; refine (blocks_c _ _).mono ?_; rintro e wb ⟨rfl, rfl⟩; refine ⟨_, rfl, DgC.of rD.out (fun h => h) _ (Ext.exts (by repeat (first | exact Ext.refl _ | assumption | apply Ext.alloc | apply Ext.drew | apply Ext.drewN | apply Ext.bytes | apply Ext.iter | refine Ext.setCell ?_ (by simp; omega) _ | refine Ext.trans ?_ (by assumption)))), ?_⟩; (try simp only [Act.put, List.setIfInBounds_toArray, List.set_cons_zero, List.set_cons_succ]))
  refine wpX_nil fun V hV => ?_
  have hEV : Ext W V := by rw [hV.out]; exact (by repeat (first | exact Ext.refl _ | assumption | apply Ext.alloc | apply Ext.drew | apply Ext.drewN | apply Ext.bytes | apply Ext.iter | refine Ext.setCell ?_ (by simp; omega) _ | refine Ext.trans ?_ (by assumption)))
  have rC := Hd.mk (show V.heap[wa.heap.size]? = some (.cells #[.string all] 9 (0, 0)) by rw [hV.out]; exact heap_alloc_new _ _)
  have sa : w2.heap.size + 1 < wa.heap.size := row_lt (Ext.blk (Ext.trans (Ext.drew (Ext.refl _)) hba) rP.out)
  have rG := Hd.mk (Ext.blk hEV rG.out)
  have rP := Hd.mk (Ext.blk hEV rP.out)
  have rR := Hd.mk (Ext.blk hEV rR.out)
  have hEwV : Ext w V := Ext.trans hEwW hEV
  clear hV hEV hba
  go_wp2_with fail
  refine rangeBlocks2 6 w2.heap.size wa.heap.size all (fun k => q32L (ych all x k)) 90 rfl (by omega) rC.out rG.out (by omega) ?assign ?body ?done
  case assign =>
    intro l' z W' K hK
    simp only [List.setIfInBounds_toArray, List.set_cons_zero, List.set_cons_succ] at hK ⊢
    gi_wp2
    exact hK
  case body =>
    intro l' k W' hk hE hrow'
    have hf := hE.cell (row_cell rP.out (j := 0) rfl) (by simp; omega)
    have hT := take_c (ych all x k) (HyU.out k) (bk all k) (bk_size all k hk) w2.heap.size 90 W' hrow'
    have HT := Hd.mk hT
    clear hT hrow' hE
    have Hn := Hd.mk (show ych all x (k + 1) = blk (wd (bk all k) 0) (ych all x k) from rfl)
    generalize bk all k = b at *
    simp only [List.setIfInBounds_toArray, List.set_cons_zero, List.set_cons_succ]
    gi_wp2_with (refine ⟨trivial, ?_⟩; gi_at_call 53; refine (CallsIn.inRound l' (callsIn_wide.2 HT.out)).mono ?_; rintro e w4 ⟨⟨v, rfl⟩, hrow4, hE4⟩)
    rw [Hn.out]
  case done =>
    intro D W' hD hE hrow' hK
    have hrow2 := hrow'
    rw [Hya.out] at hrow2
    have hyU : (digS all x).U := digS_U HxU.out
    have hf := hE.cell (row_cell rP.out (j := 0) rfl) (by simp; omega)
    have hS := sum_c (digS all x).a (digS all x).b (digS all x).c (digS all x).d hyU.a hyU.b hyU.c hyU.d w2.heap.size W' (row_cell hrow2 rfl) (row_cell hrow2 rfl) (row_cell hrow2 rfl) (row_cell hrow2 rfl)
    rw [oct16_trow] at hS
    have hts := trow_size (digS all x) 16
    have hto := trow_one (digS all x) 16
    have HS := Hd.mk hS
    have HRw := Hd.mk (hE.blk rR.out (by omega))
    have HKD := Hd.mk hK
    have hEw' : Ext w W' := Exts.ext (Exts.trans (Ext.exts hEwV) hE) (fun j (hj : j = w2.heap.size ∨ j = wa.heap.size) => by omega)
    have sV : w2.heap.size < V.heap.size := row_lt rG.out
    generalize trow (digS all x) 16 = T at *
    have Hts := Hd.mk hts
    have Hto := Hd.mk hto
    clear hrow' hrow2 hS hK hyU rG rC rD rR rP hE hEwV hEwW HyU Hya hts hto
    go_wp2_with (first | (go_at_call 56; refine HS.out.mono ?_; rintro e w5 ⟨rfl, hb5⟩) | (refine wpList_store_row rfl _ _ _ rfl (w.heap.size + 1) T rfl rfl _ _ (Ext.blk hb5 HRw.out) (by rw [Hts.out]; kernel_rfl) (by rw [Hts.out]; rfl) Hto.out ?_))
    have hKf : (w5.setRow (w.heap.size + 1) T).heap[D]? = some (.deferred (some [])) := (setRow_other _ _ _ _ (by omega)).trans (Ext.blk hb5 HKD.out)
    have hRf := setRow_heap _ _ _ T _ _ (Ext.blk hb5 HRw.out)
    refine ⟨by simp, .inl ⟨_, _, rfl, run_takeDeferred hKf, ?_⟩⟩
    have hRg : ((w5.setRow (w.heap.size + 1) T).putObj D (.deferred none)).heap[w.heap.size + 1]? = _ := (World.putObj_heap_other (by omega)).trans hRf
    refine ⟨_, results_row_tmp Tryd.results24 _ _ (w.heap.size + 1) _ _ _ _ (.int .i64 0) rfl hRg Tryd.underlying28 rfl (by rw [Hts.out]; kernel_rfl) rfl, ?_⟩
    exact ⟨by first | (rw [HM.out]; done) | (rw [HM.out]; rfl), Ext.putObj (Ext.setRow (Ext.trans hEw' hb5) (by omega) _) (by omega) _⟩

/-! ### Digests in pieces -/
theorem byteAt_append (s t : ByteArray) (i : Nat) (h : i < s.size) : byteAt (s ++ t) i = byteAt s i := by
  have h1 : i < (s ++ t).size := by rw [ByteArray.size_append]; omega
  unfold byteAt
  rw [dif_pos h1, dif_pos h]
  congr 2
  exact ByteArray.getElem_append_left h
theorem wd_append (s t : ByteArray) (p k : Nat) (h : p + 4 * k + 3 < s.size) : wd (s ++ t) p k = wd s p k := by
  unfold wd rd
  rw [byteAt_append s t _ (by omega), byteAt_append s t _ (by omega), byteAt_append s t _ (by omega), byteAt_append s t _ (by omega)]
theorem chg_prefix (s t : ByteArray) (x : Q4) : ∀ k, 64 * k ≤ s.size → chg (s ++ t) k x = chg s k x
  | 0, _ => rfl
  | k + 1, h => by
    show blk (wd (s ++ t) (64 * k)) (chg (s ++ t) k x) = blk (wd s (64 * k)) (chg s k x)
    rw [chg_prefix s t x k (by omega)]
    exact blk_congr (fun j hj => wd_append s t _ _ (by omega)) _
theorem chg_split (s : ByteArray) (x : Q4) (k : Nat) : ∀ m, 64 * (k + m) ≤ s.size → chg s (k + m) x = chg (s.extract (64 * k) s.size) m (chg s k x)
  | 0, _ => rfl
  | m + 1, h => by
    show blk (wd s (64 * (k + m))) (chg s (k + m) x) = blk (wd (s.extract (64 * k) s.size) (64 * m)) (chg (s.extract (64 * k) s.size) m (chg s k x))
    rw [chg_split s x k m (by omega), blk_cut s (64 * k) s.size (64 * m) (by omega) (Nat.le_refl _), show 64 * k + 64 * m = 64 * (k + m) from by omega]
theorem extract_append_at (s t : ByteArray) (a : Nat) (h : a ≤ s.size) : (s ++ t).extract a (s ++ t).size = s.extract a s.size ++ t := by
  apply ByteArray.ext
  rw [ByteArray.data_extract, ByteArray.data_append, ByteArray.data_append, ByteArray.data_extract, Array.extract_append]
  congr 1
  · rw [ByteArray.size_append]
    apply Array.ext_getElem?
    intro i
    simp only [Array.getElem?_extract]
    have : s.data.size = s.size := rfl
    have e1 : min (s.size + t.size) s.data.size = s.data.size := by omega
    have e2 : min s.size s.data.size = s.data.size := by omega
    rw [e1, e2]
  · have e1 : s.data.size = s.size := rfl
    have e2 : t.data.size = t.size := rfl
    rw [ByteArray.size_append, e1, show a - s.size = 0 from by omega, show s.size + t.size - s.size = t.data.size from by omega]
    exact Array.extract_size
/-- Octets behind others: what is left of these, and those. -/
theorem digS_tl (s t : ByteArray) (x : Q4) : digS (tl s ++ t) (digS s x) = digS (s ++ t) x := by
  unfold digS
  have hz : (s ++ t).size = s.size + t.size := ByteArray.size_append
  have hz2 : (tl s ++ t).size = s.size % 64 + t.size := by rw [ByteArray.size_append, tl_size]
  have e : (s ++ t).size / 64 = s.size / 64 + (tl s ++ t).size / 64 := by rw [hz, hz2]; omega
  rw [e, chg_split (s ++ t) x (s.size / 64) ((tl s ++ t).size / 64) (by omega), chg_prefix s t x (s.size / 64) (by omega), extract_append_at s t _ (by omega)]
  rfl
theorem tl_append (s t : ByteArray) : tl (tl s ++ t) = tl (s ++ t) := by
  have hz : (s ++ t).size = s.size + t.size := ByteArray.size_append
  have hz2 : (tl s ++ t).size = s.size % 64 + t.size := by rw [ByteArray.size_append, tl_size]
  have h1 : tl s ++ t = (s ++ t).extract (64 * (s.size / 64)) (s ++ t).size := (extract_append_at s t _ (by omega)).symm
  show (tl s ++ t).extract (64 * ((tl s ++ t).size / 64)) (tl s ++ t).size = (s ++ t).extract (64 * ((s ++ t).size / 64)) (s ++ t).size
  rw [hz2, h1, ByteArray.extract_extract, hz]
  congr 1 <;> omega
theorem begin_right (l : Int) (r : ByteArray) (h0 : 0 ≤ l) (h1 : l ≤ 65536) (h : (r.size : Int) = l % 64) {x : Q4} (hx : x.U) : rightB x l r = true := (rightB_iff x l r).2 ⟨hx, h0, h1, h⟩
theorem empty_append (s : ByteArray) : (⟨#[]⟩ : ByteArray) ++ s = s := by
  apply ByteArray.ext
  simp
def Dg.new : Dg := ⟨begin4, 0, ⟨#[]⟩⟩
set_option maxHeartbeats 2000000 in
set_option maxRecDepth 100000 in
theorem sumP_c (s : ByteArray) (hs : s.size ≤ 140737488351232) (w : World) : Calls Tryd.prog 13 #[.string s] w (Ret w (.tuple #[.agg (sumS s).1, .int .i64 (sumS s).2])) := by
  have HN := Hd.mk newP_c
  have hM := moreP_c .new s (by decide) hs
  have hnr : rightB begin4 0 ⟨#[]⟩ = true := begin_right 0 ⟨#[]⟩ (by omega) (by omega) rfl begin4_U
  by_cases hlen : 65536 < s.size
  · have e1 : moreS .new s = (.zero, 3) := by unfold moreS; rw [if_neg (by rw [show rightB Dg.new.x Dg.new.l Dg.new.r = true from hnr]; decide), if_pos (show (65536 : Int) < Dg.new.l + (s.size : Int) by show (65536 : Int) < (0 : Int) + (s.size : Int); omega)]
    have HS := Hd.mk (show sumS s = (row0, 3) from if_pos hlen)
    rw [e1] at hM
    have HM := Hd.mk hM
    clear hM e1 hnr
    unfold Dg.v dgV dgL Dg.new Dg.zero at HM
    unfold dgV dgL at HN
    go_enter Tryd.func13, Tryd.ntmps13
    go_wp2_with (first | (go_at_call 21; refine (HN.out _).mono ?_; rintro e w1 ⟨rfl, hb⟩; have hrow := Hd.mk (show w1.heap[w.heap.size]? = some (.cells row0 28 (0, 0)) from Ext.blk hb (heap_alloc_new _ _))) | (go_at_call 23; refine (HM.out _).mono ?_; rintro e w2 ⟨rfl, hb2⟩) | (refine wpList_store_row rfl _ _ _ rfl w.heap.size row0 rfl rfl _ _ (Ext.blk (Ext.alloc (Ext.refl _) _) (Ext.blk hb2 hrow.out)) (by kernel_rfl) rfl row0_one ?_))
    refine bodyPost_ret (results_row_tmp Tryd.results13 _ _ w.heap.size _ _ _ _ (.int .i64 3) rfl (setRow_heap _ _ _ _ _ _ (Ext.blk (Ext.alloc (Ext.refl _) _) (Ext.blk hb2 hrow.out))) Tryd.underlying28 rfl (by kernel_rfl) rfl) rfl ?_
    exact ⟨by first | (rw [HS.out]; done) | (rw [HS.out]; rfl), Ext.setRow (by repeat (first | exact Ext.refl _ | assumption | apply Ext.alloc | apply Ext.drew | apply Ext.drewN | apply Ext.bytes | apply Ext.iter | refine Ext.setCell ?_ (by simp; omega) _ | refine Ext.trans ?_ (by assumption))) (by omega) _⟩
  · have e1 : moreS .new s = (⟨digS s begin4, s.size, tl s⟩, 0) := by
      unfold moreS
      rw [if_neg (by rw [show rightB Dg.new.x Dg.new.l Dg.new.r = true from hnr]; decide), if_neg (show ¬ (65536 : Int) < Dg.new.l + (s.size : Int) by show ¬ (65536 : Int) < (0 : Int) + (s.size : Int); omega)]
      simp only [Dg.new, empty_append, Int.zero_add]
      rfl
    have e2 : doneS ⟨digS s begin4, s.size, tl s⟩ = (trow (digS (fin s s.size) begin4) 16, 0) := by
      unfold doneS
      rw [if_neg (by rw [show rightB (digS s begin4) s.size (tl s) = true from begin_right _ _ (by omega) (by omega) (by rw [tl_size]; omega) (digS_U begin4_U)]; decide)]
      simp only [Int.toNat_natCast]
      rw [← fin_end (tl s) s.size (by rw [tl_size]; omega), digS_tl, fin_end s s.size rfl]
    have HS := Hd.mk (show sumS s = (trow (digS (fin s s.size) begin4) 16, 0) from if_neg hlen)
    have hD := doneP_c ⟨digS s begin4, s.size, tl s⟩
    rw [e1] at hM
    rw [e2] at hD
    have hts := trow_size (digS (fin s s.size) begin4) 16
    have hto := trow_one (digS (fin s s.size) begin4) 16
    generalize trow (digS (fin s s.size) begin4) 16 = T at *
    generalize digS s begin4 = y at *
    generalize tl s = z at *
    have HM := Hd.mk hM
    have HD := Hd.mk hD
    have Hts := Hd.mk hts
    have Hto := Hd.mk hto
    clear hM hD e1 e2 hnr hts hto
    unfold Dg.v dgV dgL Dg.new at HM
    unfold Dg.v dgV dgL at HD
    unfold dgV dgL at HN
    go_enter Tryd.func13, Tryd.ntmps13
    go_wp2_with (first | (go_at_call 21; refine (HN.out _).mono ?_; rintro e w1 ⟨rfl, hb⟩; have hrow := Hd.mk (show w1.heap[w.heap.size]? = some (.cells row0 28 (0, 0)) from Ext.blk hb (heap_alloc_new _ _))) | (go_at_call 23; refine (HM.out _).mono ?_; rintro e w2 ⟨rfl, hb2⟩) | (go_at_call 24; refine (HD.out _).mono ?_; rintro e w3 ⟨rfl, hb3⟩) | (refine wpList_store_row rfl _ _ _ rfl w.heap.size T rfl rfl _ _ (Ext.blk hb3 (Ext.blk (Ext.alloc (Ext.refl _) _) (Ext.blk hb2 hrow.out))) (by rw [Hts.out]; kernel_rfl) (by rw [Hts.out]; rfl) Hto.out ?_))
    refine bodyPost_ret (results_row_tmp Tryd.results13 _ _ w.heap.size _ _ _ _ (.int .i64 0) rfl (setRow_heap _ _ _ _ _ _ (Ext.blk hb3 (Ext.blk (Ext.alloc (Ext.refl _) _) (Ext.blk hb2 hrow.out)))) Tryd.underlying28 rfl (by rw [Hts.out]; kernel_rfl) rfl) rfl ?_
    exact ⟨by first | (rw [HS.out]; done) | (rw [HS.out]; rfl), Ext.setRow (by repeat (first | exact Ext.refl _ | assumption | apply Ext.alloc | apply Ext.drew | apply Ext.drewN | apply Ext.bytes | apply Ext.iter | refine Ext.setCell ?_ (by simp; omega) _ | refine Ext.trans ?_ (by assumption))) (by omega) _⟩
end Go.Proofs.YtimecmleaeimkaaDoor
