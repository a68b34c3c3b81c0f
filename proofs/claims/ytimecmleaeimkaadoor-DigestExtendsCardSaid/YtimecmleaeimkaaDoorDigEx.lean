/- DigestExtends' walk. -/
import Derived.Test.YtimecmleaeimkaaDoorDigPl
import Derived.Deep.Heap
namespace Go.Proofs.YtimecmleaeimkaaDoor
open Go.RowKit
open Go.Deep (blk_setCell_other)
set_option linter.unusedVariables false
theorem longS_short (S L : ByteArray) (n : Nat) : (longS S L n false).size ≤ 4000 := by
  unfold longS
  rw [ByteArray.size_append, repS_size, cut300_size L]
  have : cntS (cut300 S).size n false * (cut300 S).size ≤ 3700 := by
    unfold cntS
    have h1 : 3700 / max (cut300 S).size 1 * max (cut300 S).size 1 ≤ 3700 := Nat.div_mul_le_self _ _
    have h2 : min n ((if false = true then 65400 else 3700) / max (cut300 S).size 1) * (cut300 S).size ≤ 3700 / max (cut300 S).size 1 * max (cut300 S).size 1 := Nat.mul_le_mul (by simp only [Bool.false_eq_true, if_false]; exact Nat.min_le_right _ _) (Nat.le_max_left _ _)
    omega
  omega
/-- The beginning of what stands behind a text. -/
def behK (n k : Nat) : ByteArray := one28 ++ zeroS (finC n) ++ strOfNums (octL (8 * n) k)
theorem behK_size (n k : Nat) : (behK n k).size = 1 + finC n + k := by
  unfold behK
  rw [ByteArray.size_append, ByteArray.size_append, one28_size, zeroS_size, strOfNums_size, octL_length]
theorem behK_0 (n : Nat) : behK n 0 = one28 ++ zeroS (finC n) := by
  unfold behK
  show one28 ++ zeroS (finC n) ++ strOfNums [] = _
  apply ByteArray.ext
  simp [strOfNums]
theorem behK_next (n k : Nat) : behK n k ++ strOfNums [8 * (n : Int) / 256 ^ k % 256] = behK n (k + 1) := by
  unfold behK
  rw [ByteArray.append_assoc, ← strOfNums_append]
  rfl
theorem behK_8 (n : Nat) : behK n 8 = endS n := rfl
theorem wd_fb (y : Q4) (hy : y.U) (j : Nat) (hj : j < 4) : wd (fb (oc y)) 0 j = qn y j := by
  have h := qn_U hy j
  have e : ∀ r, r < 4 → byteAt (fb (oc y)) (4 * j + r) = qn y j / 256 ^ r % 256 := fun r hr => by
    rw [fb_at (oc y) (fun j _ => oc_bd y j) _ (by omega)]
    unfold oc
    rw [show (4 * j + r) / 4 = j by omega, show (4 * j + r) % 4 = r by omega]
  unfold wd rd
  simp only [Nat.zero_add]
  have e0 := e 0 (by omega)
  rw [Nat.add_zero] at e0
  rw [e0, e 1 (by omega), e 2 (by omega), e 3 (by omega)]
  simp only [Int.pow_zero, Int.ediv_one]
  have := oct_word (qn y j) h
  omega
theorem i64_orl (i : Nat) (y x : Int) (hy0 : 0 ≤ y) (hy : y < 2 ^ i) (hy1 : y < 4611686018427387904) (hx0 : 0 ≤ x) (hx : x % 2 ^ i = 0) (hx1 : x < 4611686018427387904) : bits .or .i64 y x = y + x :=
  bits_join_low .i64 62 (by decide) (fun n h0 h1 => by rw [IntKind.wrap_i64]; omega) i y x hy0 hy (by omega) hx0 hx (by omega)
theorem pw_low (s : ByteArray) (p r : Nat) (hr : r < 4) : 0 ≤ pw s (4 * p + r) p ∧ pw s (4 * p + r) p < 256 ^ r := by
  have b0 := byteAt_bd s (4 * p)
  have b1 := byteAt_bd s (4 * p + 1)
  have b2 := byteAt_bd s (4 * p + 2)
  unfold pw
  match r, hr with
  | 0, _ => rw [if_neg (by omega), if_neg (by omega), if_neg (by omega), if_neg (by omega)]; decide
  | 1, _ => rw [if_pos (by omega), if_neg (by omega), if_neg (by omega), if_neg (by omega)]; omega
  | 2, _ => rw [if_pos (by omega), if_pos (by omega), if_neg (by omega), if_neg (by omega)]; omega
  | 3, _ => rw [if_pos (by omega), if_pos (by omega), if_pos (by omega), if_neg (by omega)]; omega
/-- The row of a digest in progress, of whose numbers k octets have come. -/
def dgK (F : ByteArray) (k : Nat) (l : Int) : Array Value := #[.int .i64 (pw F k 0), .int .i64 (pw F k 1), .int .i64 (pw F k 2), .int .i64 (pw F k 3), .int .i64 l, .string ⟨#[]⟩]
theorem dgK_at (F : ByteArray) (k : Nat) (l : Int) (p : Nat) (hp : p < 4) : (dgK F k l)[p]? = some (.int .i64 (pw F k p)) := by
  match p, hp with
  | 0, _ | 1, _ | 2, _ | 3, _ => rfl
theorem dgK_next (F : ByteArray) (k : Nat) (l : Int) (p r : Nat) (hp : p < 4) (hr : r < 4) (hk : k = 4 * p + r) : ((dgK F k l).toList.take p ++ [Value.int .i64 (pw F (k + 1) p)] ++ (dgK F k l).toList.drop (p + 1)).toArray = dgK F (k + 1) l := by
  have o : ∀ j, j ≠ p → pw F (k + 1) j = pw F k j := fun j hj => pw_other F k j (by omega)
  unfold dgK
  match p, hp with
  | 0, _ => rw [o 1 (by decide), o 2 (by decide), o 3 (by decide)]; rfl
  | 1, _ => rw [o 0 (by decide), o 2 (by decide), o 3 (by decide)]; rfl
  | 2, _ => rw [o 0 (by decide), o 1 (by decide), o 3 (by decide)]; rfl
  | 3, _ => rw [o 0 (by decide), o 1 (by decide), o 2 (by decide)]; rfl
theorem dgK_0 (F : ByteArray) (l : Int) : dgK F 0 l = #[.int .i64 0, .int .i64 0, .int .i64 0, .int .i64 0, .int .i64 l, .string ⟨#[]⟩] := by
  unfold dgK pw
  simp
theorem dgK_16 (y : Q4) (hy : y.U) (l : Int) : dgK (fb (oc y)) 16 l = dgL y l ⟨#[]⟩ := by
  unfold dgK
  rw [pw_all _ 16 0 (by omega), pw_all _ 16 1 (by omega), pw_all _ 16 2 (by omega), pw_all _ 16 3 (by omega), wd_fb y hy 0 (by omega), wd_fb y hy 1 (by omega), wd_fb y hy 2 (by omega), wd_fb y hy 3 (by omega)]
  rfl
theorem dgK_one (F : ByteArray) (k : Nat) (l : Int) : (dgK F k l).all (·.oneCell') = true := by simp [dgK, Value.oneCell']
theorem rowF_list (f : Nat → Int) : rowF f = (((List.range 16).map f).map (Value.int .u8)).toArray := by unfold rowF; rw [List.map_map]; rfl
theorem eql_rowF (f : Nat → Int) (w : World) : (binOp .eql 28 (.agg (rowF f)) (.agg (rowF f))).run Tryd.prog w = .ok (.bool true) w := by
  rw [rowF_list, run_eql_ints w .u8 28 5 16 Tryd.underlying28 Tryd.underlying5 (fun w => by kernel_rfl) _ _ (by simp) (by simp)]
  simp
theorem ext_row (X : ByteArray) (h : X.size ≤ 4000) : dgK (fb (sumF X)) 16 (fin X X.size).size = dgL (stt (fin X X.size)).x (stt (fin X X.size)).l (stt (fin X X.size)).r := by
  rw [stt_fin X (by omega)]
  unfold sumF
  rw [if_neg (by omega)]
  exact dgK_16 _ (digS_U begin4_U) _
set_option maxHeartbeats 1000000 in
set_option maxRecDepth 100000 in
theorem DigestExtends_c (S L : ByteArray) (hS : S.size ≤ 9223372036854775807) (hL : L.size ≤ 9223372036854775807) (n : Nat) (hn : n < 65536) (M : ByteArray) (hM : M.size ≤ 9223372036854775807) (w : World) :
    Calls Tryd.prog 7 #[.agg #[.string S, .string L, .int .u16 n], .string M] w (Ret w (.bool true)) := by
  have hO := fun w => octets_c S L hS hL n hn false w
  have hxs := longS_short S L n
  generalize longS S L n false = X at *
  obtain ⟨U, eU⟩ : ∃ u, M.extract 0 (min M.size 300) = u := ⟨_, rfl⟩
  have hus : U.size = min M.size 300 := by rw [← eU, ByteArray.size_extract]; omega
  rw [← hus] at eU
  have m1 : min (M.size : Int) 300 = (U.size : Int) := by omega
  have r1 : 0 ≤ (U.size : Int) ∧ (U.size : Int) ≤ M.size := by omega
  have hu3 : U.size ≤ 300 := by omega
  have hFe : X ++ endS X.size = fin X X.size := fin_end X X.size rfl
  have hFs : (fin X X.size).size = X.size + (endS X.size).size := by rw [← hFe, ByteArray.size_append]
  have hF4 : (fin X X.size).size ≤ 5000 := by rw [fin_size]; unfold finC; omega
  have hk16 := ext_row X hxs
  have hM2 := fun w => moreP_c (stt (fin X X.size)) U (by show (tl _).size ≤ _; rw [tl_size]; omega) (by omega) w
  rw [more_stt _ _ (by omega)] at hM2
  have hD2 := fun w => doneP_c (stt (fin X X.size ++ U)) w
  rw [done_stt _ (by rw [ByteArray.size_append]; omega), sumS_row, sumS_ok (by rw [ByteArray.size_append]; omega)] at hD2
  have hP2 := fun w => sumP_c (fin X X.size ++ U) (by rw [ByteArray.size_append]; omega) w
  rw [sumS_row, sumS_ok (by rw [ByteArray.size_append]; omega)] at hP2
  have hq2 := eql_rowF (sumF (fin X X.size ++ U))
  have hT2s := rowF_size (sumF (fin X X.size ++ U))
  have hT2o := rowF_one (sumF (fin X X.size ++ U))
  have hR1s : (dgL (stt (fin X X.size)).x (stt (fin X X.size)).l (stt (fin X X.size)).r).size = 6 := rfl
  have hR2s : (dgL (stt (fin X X.size ++ U)).x (stt (fin X X.size ++ U)).l (stt (fin X X.size ++ U)).r).size = 6 := rfl
  have hR2o := dgL_one (stt (fin X X.size ++ U)).x (stt (fin X X.size ++ U)).l (stt (fin X X.size ++ U)).r
  simp only [Dg.v, dgV] at hM2 hD2
  generalize dgL (stt (fin X X.size)).x (stt (fin X X.size)).l (stt (fin X X.size)).r = R1 at *
  generalize dgL (stt (fin X X.size ++ U)).x (stt (fin X X.size ++ U)).l (stt (fin X X.size ++ U)).r = R2 at *
  generalize rowF (sumF (fin X X.size ++ U)) = T2 at *
  generalize fin X X.size = F at *
  have HFe := Hd.mk hFe
  have HFs := Hd.mk hFs
  have HF4 := Hd.mk hF4
  have Hk16 := Hd.mk hk16
  have HM2 := Hd.mk hM2
  have HD2 := Hd.mk hD2
  have HP2 := Hd.mk hP2
  have Ht2s := Hd.mk hT2s
  have Ht2o := Hd.mk hT2o
  have Hr1s := Hd.mk hR1s
  have Hr2s := Hd.mk hR2s
  have Hr2o := Hd.mk hR2o
  clear hFe hFs hF4 hk16 hM2 hD2 hP2 hT2s hT2o hR1s hR2s hR2o
  have hP := fun w => sumP_c X (by omega) w
  rw [sumS_row, sumS_ok (by omega)] at hP
  have hTs := rowF_size (sumF X)
  have hTo := rowF_one (sumF X)
  have hTa := rowF_at (sumF X)
  have hbd := sumF_bd X
  generalize rowF (sumF X) = T at *
  have HO := Hd.mk hO
  have HP := Hd.mk hP
  have Hts := Hd.mk hTs
  have Hto := Hd.mk hTo
  have Hta := Hd.mk hTa
  have Hbd := Hd.mk hbd
  clear hO hP hTs hTo hus hTa hbd
  go_enter Tryd.func7, Tryd.ntmps7
  go_upto_region 3 with (go_at_call 11; refine (works_c _).mono ?_; rintro e w1 ⟨rfl, hb⟩; have H0 := Hd.mk (Ext.blk hb (heap_alloc_new w (.cells #[.string S, .string L, .int .u16 n] 24))))
  have hE : Ext w w1 := (by repeat (first | exact Ext.refl _ | assumption | apply Ext.alloc | apply Ext.drew | apply Ext.drewN | apply Ext.bytes | apply Ext.iter | refine Ext.setCell ?_ (by simp; omega) _ | refine Ext.trans ?_ (by assumption)))
  clear hb
  have hcc : ∀ w', Ext w1 w' → w'.cell? ⟨w.heap.size, 0, none⟩ = some (.string S) ∧ w'.cell? ⟨w.heap.size, 1, none⟩ = some (.string L) ∧ w'.cell? ⟨w.heap.size, 2, none⟩ = some (.int .u16 n) := fun w' h => ⟨Ext.cell h (row_cell H0.out rfl), Ext.cell h (row_cell H0.out rfl), Ext.cell h (row_cell H0.out rfl)⟩
  refine wp_region_x (Ext w1) false (by kernel_rfl) (by kernel_rfl) (by repeat (first | exact Ext.refl _ | assumption | apply Ext.alloc | apply Ext.drew | apply Ext.drewN | apply Ext.bytes | apply Ext.iter | refine Ext.setCell ?_ (by simp; omega) _ | refine Ext.trans ?_ (by assumption))) ?_
  (repeat (first
   | (refine wpX_skip rfl ?_; (try simp only [Act.put, List.setIfInBounds_toArray, List.set_cons_zero, List.set_cons_succ]))
   | (apply wpX_still; exact rfl; exact rfl; (intro w' hw'; have hcw := hcc w' hw'; go_simp; first | done | exact rfl); (try simp only [Act.put, List.setIfInBounds_toArray, List.set_cons_zero, List.set_cons_succ]))))
  refine wpX_busy rfl rfl ?_
  go_simp
  go_at_call 12
  refine (HO.out _).mono ?_
  rintro e wc ⟨rfl, hbc⟩
  refine ⟨_, rfl, (by repeat (first | exact Ext.refl _ | assumption | apply Ext.alloc | apply Ext.drew | apply Ext.drewN | apply Ext.bytes | apply Ext.iter | refine Ext.setCell ?_ (by simp; omega) _ | refine Ext.trans ?_ (by assumption))), ?_⟩
  (try simp only [Act.put, List.setIfInBounds_toArray, List.set_cons_zero, List.set_cons_succ])
  (repeat (first
   | (refine wpX_skip rfl ?_; (try simp only [Act.put, List.setIfInBounds_toArray, List.set_cons_zero, List.set_cons_succ]))
   | (apply wpX_still; exact rfl; exact rfl; (intro w' hw'; have hcw := hcc w' hw'; go_simp; first | done | exact rfl); (try simp only [Act.put, List.setIfInBounds_toArray, List.set_cons_zero, List.set_cons_succ]))))
  refine wpX_nil fun wf hwf => ?_
  have hEf : Ext w wf := by rw [hwf.out]; exact (by repeat (first | exact Ext.refl _ | assumption | apply Ext.alloc | apply Ext.drew | apply Ext.drewN | apply Ext.bytes | apply Ext.iter | refine Ext.setCell ?_ (by simp; omega) _ | refine Ext.trans ?_ (by assumption)))
  clear hwf hbc hcc H0 hE
  have HR := Hd.mk (Repeat0_c (finC X.size : Int) (by omega) (by unfold finC; omega))
  simp only [Int.toNat_natCast] at HR
  have hfc : finC X.size < 64 := by unfold finC; omega
  obtain ⟨m, em⟩ : ∃ m, X.size % 64 = m := ⟨_, rfl⟩
  have q0 : (X.size : Int).tmod 64 = (m : Int) := by rw [Int.tmod_eq_emod_of_nonneg (by omega)]; omega
  obtain ⟨d, ed⟩ : ∃ d, 119 - m = d := ⟨_, rfl⟩
  have q1 : IntKind.i64.wrap (119 - (m : Int)) = (d : Int) := by rw [IntWalk.i64_in _ (by omega)]; omega
  have q2 : (d : Int).tmod 64 = (finC X.size : Int) := by rw [Int.tmod_eq_emod_of_nonneg (by omega)]; unfold finC; omega
  have hbk0 := behK_0 X.size
  have hz := zeroS_size (finC X.size)
  have h128 : one28 = ⟨#[128]⟩ := rfl
  rw [h128] at hbk0
  have hbks := behK_size X.size
  obtain ⟨c, ec⟩ : ∃ c, finC X.size = c := ⟨_, rfl⟩
  rw [ec] at HR q2 hfc hbk0 hz hbks
  generalize zeroS c = z at *
  have Hbk0 := Hd.mk hbk0
  have Hbks := Hd.mk hbks
  clear em ed ec hbk0 hbks h128
  have g1 : ¬ 9223372036854775807 < 1 + z.size := by omega
  have q3 : IntKind.i64.wrap (8 * (X.size : Int)) = 8 * (X.size : Int) := by rw [IntWalk.i64_in _ (by omega)]
  go_upto_region 8 with (first | (go_at_call 13; refine (HP.out _).mono ?_; rintro e w2 ⟨rfl, hb2⟩; have hrow := Hd.mk (heap_alloc_new w2 (.cells (Array.replicate 16 (Value.int .u8 0)) 28)); have hr1 := Hd.mk (setRow_heap _ _ _ T _ _ hrow.out)) | (refine wpList_store_row rfl _ _ _ rfl w2.heap.size T rfl rfl _ _ hrow.out (by rw [Hts.out]; kernel_rfl) (by rw [Hts.out]; rfl) Hto.out ?_) | (go_at_call 28; refine (HR.out _).mono ?_; rintro e w3 ⟨rfl, hb3⟩))
  have hE2 : Ext w w2 := Ext.trans hEf hb2
  have hy2 : Ext w ((w2.alloc (.cells (Array.replicate 16 (Value.int .u8 0)) 28)).setRow w2.heap.size T) := Ext.setRow (Ext.alloc hE2 _) (Ext.size hE2) _
  have hE3 : Ext w w3 := Ext.trans hy2 hb3
  have T3 := Hd.mk (Ext.blk hb3 hr1.out)
  clear hy2 hb3 hb2 hr1 hrow q0 q1 q2 hE2 hEf HR hz
  rw [← Hbk0.out]
  go_wp2
  go_loopw [8, 40] (fun vb vi wr => ∃ k : Nat, k ≤ 8 ∧ vb = .string (behK X.size k) ∧ vi = .int .i64 k ∧ Ext w3 wr) (fun _ i _ => 8 - (intOf i).toNat)
  case atStart => exact ⟨0, by omega, rfl, rfl, Ext.refl _⟩
  case round =>
    obtain ⟨k, hk, rfl, rfl, hEk⟩ := hrel
    by_cases hlt : k < 8
    · have hlti : (k : Int) < 8 := by omega
      have hsz := Hbks.out k
      have hnx := Hd.mk (behK_next X.size k)
      obtain ⟨v, ev⟩ : ∃ v, 8 * (X.size : Int) / 256 ^ k % 256 = v := ⟨_, rfl⟩
      rw [ev] at hnx
      have kc := conv_one v
      obtain ⟨O, eO⟩ : ∃ x, strOfNums [v] = x := ⟨_, rfl⟩
      rw [eO] at kc hnx
      have sO : O.size = 1 := by rw [← eO, strOfNums_size]; rfl
      generalize behK X.size k = B at *
      have g2 : ¬ 9223372036854775807 < B.size + O.size := by omega
      have hw8 : 8 * (X.size : Int) / 2 ^ (8 * k) % 256 = v := by rw [← ev, Int.pow_mul]; rfl
      have kd : (convert 34 9 (.slice (some ⟨wr.heap.size, 0, none⟩) 1 1)).run Tryd.prog (wr.alloc (.cells #[.int .u8 v] 5)) = .ok (.string O) (wr.alloc (.cells #[.int .u8 v] 5)) := kc wr
      go_wp2
      refine ⟨⟨k + 1, by omega, by rw [hnx.out], by go_num, Ext.alloc hEk _⟩, ?_⟩
      simp [intOf]
      omega
    · obtain rfl : k = 8 := by omega
      obtain ⟨B, eB⟩ : ∃ b, behK X.size 8 = b := ⟨_, rfl⟩
      have Hbe := Hd.mk (show B.size = 1 + c + 8 by rw [← eB]; exact Hbks.out 8)
      have HB := Hd.mk (show endS X.size = B from eB)
      have hbs : B.size ≤ 80 := by have := Hbe.out; omega
      rw [eB]
      clear eB
      obtain ⟨l, el⟩ : ∃ l : Int, (X.size : Int) + B.size = l := ⟨_, rfl⟩
      have q5 : wrap64 l = l := by unfold wrap64; omega
      have T4 := Hd.mk (Ext.blk hEk T3.out)
      go_upto_region 14 with fail
      refine wp_name fun W5 hW5 => ?_
      have hE5 : Ext w W5 := by rw [hW5.out]; exact Ext.alloc (Ext.trans hE3 hEk) _
      have T5 := Hd.mk (show W5.heap[w2.heap.size]? = some (.cells T 28 (0, 0)) by rw [hW5.out]; exact heap_alloc_next T4.out)
      obtain ⟨g, eg⟩ : ∃ g, wr.heap.size = g := ⟨_, rfl⟩
      have G5 := Hd.mk (show W5.heap[g]? = some (.cells (dgK (fb (sumF X)) 0 l) 41 (0, 0)) by rw [hW5.out, ← eg, dgK_0]; exact heap_alloc_at rfl)
      have hgw : w.heap.size ≤ g := by rw [← eg]; exact Ext.size (Ext.trans hE3 hEk)
      simp only [eg]
      clear hW5 T4 T3 eg
      go_wp2_with (refine wpList_load_row rfl _ _ rfl w2.heap.size rfl _ T (0, 0) _ T5.out Tryd.underlying28 rfl (by rw [Hts.out]; kernel_rfl) ?_)
      go_loopw [62] (fun vi wq => ∃ k : Nat, k ≤ 16 ∧ vi = .int .i64 k ∧ Exts (· = g) W5 wq ∧ wq.heap[g]? = some (.cells (dgK (fb (sumF X)) k l) 41 (0, 0))) (fun i _ => 16 - (intOf i).toNat)
      case atStart => exact ⟨0, by omega, rfl, Exts.refl _, G5.out⟩
      case round =>
        obtain ⟨k, hk, rfl, hEk2, hrow⟩ := hrel
        have Hrow := Hd.mk hrow
        by_cases hlt : k < 16
        · have hlti : (k : Int) < 16 := by omega
          have hA := run_index_row T k hlt _ (Hta.out k hlt)
          obtain ⟨p, r, hkp, hr4⟩ : ∃ p r, k = 4 * p + r ∧ r < 4 := ⟨k / 4, k % 4, by omega, by omega⟩
          have hp4 : p < 4 := by omega
          have hpw := pw_low (fb (sumF X)) p r hr4
          have hth := pw_this (fb (sumF X)) k p r hkp hr4
          rw [fb_at (sumF X) Hbd.out k hlt] at hth
          rw [← hkp] at hpw
          have hb := Hbd.out k hlt
          have hc := row_cell hrow (dgK_at (fb (sumF X)) k l p hp4)
          have Hnx := Hd.mk (dgK_next (fb (sumF X)) k l p r hp4 hr4 hkp)
          have Hds := Hd.mk (show (dgK (fb (sumF X)) k l).size = 6 from rfl)
          generalize dgK (fb (sumF X)) k l = R at *
          obtain ⟨b, eb⟩ : ∃ b, sumF X k = b := ⟨_, rfl⟩
          rw [eb] at hA hth hb
          generalize pw (fb (sumF X)) k p = P at *
          generalize pw (fb (sumF X)) (k + 1) p = P' at *
          have q6 : (k : Int).tdiv 4 = (p : Int) := by rw [Int.tdiv_eq_ediv_of_nonneg (by omega)]; omega
          have q7 : (k : Int).tmod 4 = (r : Int) := by rw [Int.tmod_eq_emod_of_nonneg (by omega)]; omega
          have hpi : (p : Int) < 4 := by omega
          have wpi : IntKind.i64.wrap (p : Int) = (p : Int) := by rw [IntWalk.i64_in _ (by omega)]
          clear hrow hkp eb
          go_upto_region 17 with fail
          have hf := row_frozen Hrow.out p
          have hcc : ∀ w', Ext wr w' → w'.cell? ⟨g, p, none⟩ = some (.int .i64 P) ∧ w'.frozen? ⟨g, p, none⟩ = false := fun w' h => ⟨Ext.cell h hc, (Ext.frozen h (row_lt Hrow.out)).trans hf⟩
          match r, hr4 with
          | 0, _ =>
            have q8 : (k : Int).tmod 4 = 0 := q7
            clear q7
            have hth' : P' = P + b := by rw [hth]; show P + b * 1 = P + b; rw [Int.mul_one]
            have hpl : P < 1 := hpw.2
            have hor := i64_orl 0 P b hpw.1 (by omega) (by omega) (by omega) (by omega) (by omega)
            have hor' := hor.trans hth'.symm
            have hv : bits .or .i64 P (IntKind.i64.wrap (IntKind.i64.wrap b * 2 ^ min (IntKind.i64.wrap 0).toNat 64)) = P' := by
              rw [IntWalk.i64_in b (by omega), show min (IntKind.i64.wrap 0).toNat 64 = 0 from by decide, show (2 : Int) ^ 0 = 1 from by decide, IntWalk.i64_in _ (by omega)]
              exact (by rw [Int.mul_one]; exact hor')
            clear hor hor' hth hth' hpw hpl
            refine wp_region_x (Ext wr) true (by kernel_rfl) (by kernel_rfl) (by repeat (first | exact Ext.refl _ | assumption | apply Ext.alloc | apply Ext.drew | apply Ext.drewN | apply Ext.bytes | apply Ext.iter | refine Ext.setCell ?_ (by simp; omega) _ | refine Ext.trans ?_ (by assumption))) ?_
            (repeat (first
             | (refine wpX_skip rfl ?_; (try simp only [Act.put, List.setIfInBounds_toArray, List.set_cons_zero, List.set_cons_succ]))
             | (apply wpX_still; exact rfl; exact rfl; (intro w' hw'; have hcw := hcc w' hw'; go_simp; first | done | exact rfl); (try simp only [Act.put, List.setIfInBounds_toArray, List.set_cons_zero, List.set_cons_succ]))))
            refine wpX_last rfl rfl (busy_store_cell _ _ _ rfl g p (.int .i64 P') rfl rfl _ _ Hrow.out (by rw [Hds.out]; omega) (by kernel_rfl) rfl rfl trivial ?_)
            rw [Hnx.out]
            refine wpX_end ?_
            have hEn : Exts (· = g) W5 ((wr.drew).setRow g (dgK (fb (sumF X)) (k + 1) l)) := Exts.setRow (Exts.drew hEk2) (.inl rfl) _
            have hrn := setRow_heap wr.drew g _ (dgK (fb (sumF X)) (k + 1) l) _ _ Hrow.out
            go_wp2
            refine ⟨⟨k + 1, by omega, by go_num, hEn, hrn⟩, ?_⟩
            simp [intOf]
            omega
          | 1, _ =>
            have q8 : (k : Int).tmod 4 = 1 := q7
            clear q7
            have hth' : P' = P + b * 256 := by rw [hth]; rfl
            have hpl : P < 256 := hpw.2
            have hor := i64_orl 8 P (b * 256) hpw.1 (by omega) (by omega) (by omega) (by omega) (by omega)
            have hor' := hor.trans hth'.symm
            have hv : bits .or .i64 P (IntKind.i64.wrap (IntKind.i64.wrap b * 2 ^ min (IntKind.i64.wrap 8).toNat 64)) = P' := by
              rw [IntWalk.i64_in b (by omega), show min (IntKind.i64.wrap 8).toNat 64 = 8 from by decide, show (2 : Int) ^ 8 = 256 from by decide, IntWalk.i64_in _ (by omega)]
              exact hor'
            clear hor hor' hth hth' hpw hpl
            refine wp_region_x (Ext wr) true (by kernel_rfl) (by kernel_rfl) (by repeat (first | exact Ext.refl _ | assumption | apply Ext.alloc | apply Ext.drew | apply Ext.drewN | apply Ext.bytes | apply Ext.iter | refine Ext.setCell ?_ (by simp; omega) _ | refine Ext.trans ?_ (by assumption))) ?_
            (repeat (first
             | (refine wpX_skip rfl ?_; (try simp only [Act.put, List.setIfInBounds_toArray, List.set_cons_zero, List.set_cons_succ]))
             | (apply wpX_still; exact rfl; exact rfl; (intro w' hw'; have hcw := hcc w' hw'; go_simp; first | done | exact rfl); (try simp only [Act.put, List.setIfInBounds_toArray, List.set_cons_zero, List.set_cons_succ]))))
            refine wpX_last rfl rfl (busy_store_cell _ _ _ rfl g p (.int .i64 P') rfl rfl _ _ Hrow.out (by rw [Hds.out]; omega) (by kernel_rfl) rfl rfl trivial ?_)
            rw [Hnx.out]
            refine wpX_end ?_
            have hEn : Exts (· = g) W5 ((wr.drew).setRow g (dgK (fb (sumF X)) (k + 1) l)) := Exts.setRow (Exts.drew hEk2) (.inl rfl) _
            have hrn := setRow_heap wr.drew g _ (dgK (fb (sumF X)) (k + 1) l) _ _ Hrow.out
            go_wp2
            refine ⟨⟨k + 1, by omega, by go_num, hEn, hrn⟩, ?_⟩
            simp [intOf]
            omega
          | 2, _ =>
            have q8 : (k : Int).tmod 4 = 2 := q7
            clear q7
            have hth' : P' = P + b * 65536 := by rw [hth]; rfl
            have hpl : P < 65536 := hpw.2
            have hor := i64_orl 16 P (b * 65536) hpw.1 (by omega) (by omega) (by omega) (by omega) (by omega)
            have hor' := hor.trans hth'.symm
            have hv : bits .or .i64 P (IntKind.i64.wrap (IntKind.i64.wrap b * 2 ^ min (IntKind.i64.wrap 16).toNat 64)) = P' := by
              rw [IntWalk.i64_in b (by omega), show min (IntKind.i64.wrap 16).toNat 64 = 16 from by decide, show (2 : Int) ^ 16 = 65536 from by decide, IntWalk.i64_in _ (by omega)]
              exact hor'
            clear hor hor' hth hth' hpw hpl
            refine wp_region_x (Ext wr) true (by kernel_rfl) (by kernel_rfl) (by repeat (first | exact Ext.refl _ | assumption | apply Ext.alloc | apply Ext.drew | apply Ext.drewN | apply Ext.bytes | apply Ext.iter | refine Ext.setCell ?_ (by simp; omega) _ | refine Ext.trans ?_ (by assumption))) ?_
            (repeat (first
             | (refine wpX_skip rfl ?_; (try simp only [Act.put, List.setIfInBounds_toArray, List.set_cons_zero, List.set_cons_succ]))
             | (apply wpX_still; exact rfl; exact rfl; (intro w' hw'; have hcw := hcc w' hw'; go_simp; first | done | exact rfl); (try simp only [Act.put, List.setIfInBounds_toArray, List.set_cons_zero, List.set_cons_succ]))))
            refine wpX_last rfl rfl (busy_store_cell _ _ _ rfl g p (.int .i64 P') rfl rfl _ _ Hrow.out (by rw [Hds.out]; omega) (by kernel_rfl) rfl rfl trivial ?_)
            rw [Hnx.out]
            refine wpX_end ?_
            have hEn : Exts (· = g) W5 ((wr.drew).setRow g (dgK (fb (sumF X)) (k + 1) l)) := Exts.setRow (Exts.drew hEk2) (.inl rfl) _
            have hrn := setRow_heap wr.drew g _ (dgK (fb (sumF X)) (k + 1) l) _ _ Hrow.out
            go_wp2
            refine ⟨⟨k + 1, by omega, by go_num, hEn, hrn⟩, ?_⟩
            simp [intOf]
            omega
          | 3, _ =>
            have q8 : (k : Int).tmod 4 = 3 := q7
            clear q7
            have hth' : P' = P + b * 16777216 := by rw [hth]; rfl
            have hpl : P < 16777216 := hpw.2
            have hor := i64_orl 24 P (b * 16777216) hpw.1 (by omega) (by omega) (by omega) (by omega) (by omega)
            have hor' := hor.trans hth'.symm
            have hv : bits .or .i64 P (IntKind.i64.wrap (IntKind.i64.wrap b * 2 ^ min (IntKind.i64.wrap 24).toNat 64)) = P' := by
              rw [IntWalk.i64_in b (by omega), show min (IntKind.i64.wrap 24).toNat 64 = 24 from by decide, show (2 : Int) ^ 24 = 16777216 from by decide, IntWalk.i64_in _ (by omega)]
              exact hor'
            clear hor hor' hth hth' hpw hpl
            refine wp_region_x (Ext wr) true (by kernel_rfl) (by kernel_rfl) (by repeat (first | exact Ext.refl _ | assumption | apply Ext.alloc | apply Ext.drew | apply Ext.drewN | apply Ext.bytes | apply Ext.iter | refine Ext.setCell ?_ (by simp; omega) _ | refine Ext.trans ?_ (by assumption))) ?_
            (repeat (first
             | (refine wpX_skip rfl ?_; (try simp only [Act.put, List.setIfInBounds_toArray, List.set_cons_zero, List.set_cons_succ]))
             | (apply wpX_still; exact rfl; exact rfl; (intro w' hw'; have hcw := hcc w' hw'; go_simp; first | done | exact rfl); (try simp only [Act.put, List.setIfInBounds_toArray, List.set_cons_zero, List.set_cons_succ]))))
            refine wpX_last rfl rfl (busy_store_cell _ _ _ rfl g p (.int .i64 P') rfl rfl _ _ Hrow.out (by rw [Hds.out]; omega) (by kernel_rfl) rfl rfl trivial ?_)
            rw [Hnx.out]
            refine wpX_end ?_
            have hEn : Exts (· = g) W5 ((wr.drew).setRow g (dgK (fb (sumF X)) (k + 1) l)) := Exts.setRow (Exts.drew hEk2) (.inl rfl) _
            have hrn := setRow_heap wr.drew g _ (dgK (fb (sumF X)) (k + 1) l) _ _ Hrow.out
            go_wp2
            refine ⟨⟨k + 1, by omega, by go_num, hEn, hrn⟩, ?_⟩
            simp [intOf]
            omega
        · obtain rfl : k = 16 := by omega
          have hl : l = F.size := by rw [← el, HFs.out, HB.out]; omega
          have hrow' := hrow
          rw [hl, Hk16.out] at hrow'
          have Hr := Hd.mk hrow'
          have hFe := HFe.out
          rw [HB.out] at hFe
          have hF4 := HF4.out
          have gg1 : ¬ 9223372036854775807 < X.size + B.size := by omega
          have gg2 : ¬ 9223372036854775807 < F.size + U.size := by omega
          have hEr : Ext w wr := (Exts.mono (T := fun _ => False) (Exts.trans (S := (· = g)) hE5.exts hEk2) (fun k hk h => by omega)).ext (fun _ h => h.elim)
          clear hrow hrow' Hrow
          go_wp2_with (first | (refine wpList_load_row rfl _ _ rfl g rfl _ R1 (0, 0) _ Hr.out Tryd.underlying41 rfl (by rw [Hr1s.out]; kernel_rfl) ?_) | (go_at_call 23; refine (HM2.out _).mono ?_; rintro e w7 ⟨rfl, hb7⟩; have hr7 := Hd.mk (Ext.blk hb7 Hr.out); have hr8 := Hd.mk (setRow_heap _ _ _ R2 _ _ hr7.out)) | (refine wpList_store_row rfl _ _ _ rfl g R2 rfl rfl _ _ hr7.out (by rw [Hr2s.out]; kernel_rfl) (by rw [Hr1s.out, Hr2s.out]) Hr2o.out ?_) | (refine wpList_load_row rfl _ _ rfl g rfl _ R2 (0, 0) _ hr8.out Tryd.underlying41 rfl (by rw [Hr2s.out]; kernel_rfl) ?_) | (go_at_call 24; refine (HD2.out _).mono ?_; rintro e w9 ⟨rfl, hb9⟩; have hrowd := Hd.mk (heap_alloc_new w9 (.cells (Array.replicate 16 (Value.int .u8 0)) 28)); have hrd1 := Hd.mk (setRow_heap _ _ _ T2 _ _ hrowd.out)) | (refine wpList_store_row rfl _ _ _ rfl w9.heap.size T2 rfl rfl _ _ hrowd.out (by rw [Ht2s.out]; kernel_rfl) (by rw [Ht2s.out]; rfl) Ht2o.out ?_) | (go_at_call 13; refine (HP2.out _).mono ?_; rintro e wx ⟨rfl, hbx⟩; have hrowx := Hd.mk (heap_alloc_new wx (.cells (Array.replicate 16 (Value.int .u8 0)) 28)); have hrx1 := Hd.mk (setRow_heap _ _ _ T2 _ _ hrowx.out); have hrd2 := Hd.mk (Ext.blk (Ext.setRow (Ext.alloc hbx (.cells (Array.replicate 16 (Value.int .u8 0)) 28)) (Ext.size hbx) T2) hrd1.out)) | (refine wpList_store_row rfl _ _ _ rfl wx.heap.size T2 rfl rfl _ _ hrowx.out (by rw [Ht2s.out]; kernel_rfl) (by rw [Ht2s.out]; rfl) Ht2o.out ?_) | (refine wpList_load_row_w rfl _ _ rfl w9.heap.size rfl _ T2 (0, 0) _ hrd2.out Tryd.underlying28 rfl (by rw [Ht2s.out]; kernel_rfl) ?_) | (refine wpList_load_row_w rfl _ _ rfl wx.heap.size rfl _ T2 (0, 0) _ hrx1.out Tryd.underlying28 rfl (by rw [Ht2s.out]; kernel_rfl) ?_))
          go_ret
          have h7 : Ext w (w7.setRow g R2) := Ext.setRow (Ext.trans hEr hb7) hgw _
          have h9 := Ext.trans h7 hb9
          have h9' : Ext w ((w9.alloc (.cells (Array.replicate 16 (Value.int .u8 0)) 28)).setRow w9.heap.size T2) := Ext.setRow (Ext.alloc h9 _) (Ext.size h9) _
          have hx := Ext.trans h9' hbx
          exact ⟨rfl, Ext.setRow (Ext.alloc hx _) (Ext.size hx) _⟩
end Go.Proofs.YtimecmleaeimkaaDoor
