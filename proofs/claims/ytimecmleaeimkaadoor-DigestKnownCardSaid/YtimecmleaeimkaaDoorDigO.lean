/- Unhex of the program. -/
import Derived.Test.YtimecmleaeimkaaDoorDigL
import Derived.Shelf.Strings.SlTrimAscii
namespace Go.Proofs.YtimecmleaeimkaaDoor
open Go.RowKit
set_option linter.unusedVariables false

theorem dropWhile_all {α : Type} (p : α → Bool) : ∀ (l : List α), (∀ x ∈ l.dropWhile p, p x = true) → ∀ x ∈ l, p x = true
  | [], _, x, hx => by cases hx
  | a :: l, h, x, hx => by
    by_cases ha : p a = true
    · rw [List.dropWhile_cons_of_pos ha] at h
      rcases List.mem_cons.1 hx with rfl | hx
      · exact ha
      · exact dropWhile_all p l h x hx
    · rw [List.dropWhile_cons_of_neg ha] at h
      exact absurd (h a (List.mem_cons_self ..)) ha
theorem dropWhile_nil {α : Type} (p : α → Bool) : ∀ (l : List α), l.dropWhile p = [] ↔ ∀ x ∈ l, p x = true
  | [] => ⟨fun _ x hx => (by cases hx), fun _ => rfl⟩
  | a :: l => by
    by_cases ha : p a = true
    · rw [List.dropWhile_cons_of_pos ha, dropWhile_nil p l]
      exact ⟨fun h x hx => (List.mem_cons.1 hx).elim (fun e => e ▸ ha) (h x), fun h x hx => h x (List.mem_cons_of_mem _ hx)⟩
    · rw [List.dropWhile_cons_of_neg ha]
      exact ⟨fun h => (by cases h), fun h => absurd (h a (List.mem_cons_self ..)) ha⟩
theorem trimS_nil (l cs : List UInt8) : Lib.trimS l cs = [] ↔ ∀ x ∈ l, cs.contains x = true := by
  unfold Lib.trimS Lib.trimLeftS Lib.trimRightS
  constructor
  · intro h x hx
    have h1 := (dropWhile_nil _ _).1 h
    exact dropWhile_all _ l.reverse (fun y hy => h1 y (List.mem_reverse.2 hy)) x (List.mem_reverse.2 hx)
  · intro h
    rw [(dropWhile_nil _ _).2 (fun x hx => h x (List.mem_reverse.1 hx))]
    rfl
theorem hex_has : ∀ n : Fin 256, hexC.data.toList.contains (UInt8.ofNat n.val) = decide (0 ≤ dv (n.val : Int)) := by decide +kernel
theorem hex_at : ∀ n : Fin 256, Lib.indexByte hexC.data.toList (n.val : Int).toNat.toUInt8 = dv (n.val : Int) := by decide +kernel
theorem or4 : ∀ (v d : Fin 16), bits .or .u8 (IntKind.u8.wrap ((v.val : Int) * 16)) (d.val : Int) = 16 * (v.val : Int) + (d.val : Int) := by decide +kernel
theorem digs_iff (t : ByteArray) : ∀ n, digs t n = true ↔ ∀ k, k < n → 0 ≤ dv (byteAt t k)
  | 0 => ⟨fun _ k h => by omega, fun _ => rfl⟩
  | n + 1 => by
    unfold digs
    rw [Bool.and_eq_true, decide_eq_true_eq, digs_iff t n]
    constructor
    · rintro ⟨h, h'⟩ k hk
      by_cases hkn : k = n
      · subst hkn; exact h'
      · exact h k (by omega)
    · intro h
      exact ⟨fun k hk => h k (by omega), h n (by omega)⟩
theorem hex_has8 (b : UInt8) : hexC.data.toList.contains b = decide (0 ≤ dv (b.toNat : Int)) := by
  have h := hex_has ⟨b.toNat, b.toNat_lt⟩
  simp only [UInt8.ofNat_toNat] at h
  exact h
/-- Trimming leaves nothing where all are digits. -/
theorem trim_digs (t : ByteArray) (n : Nat) (hn : t.size = n) : (Lib.trimS t.data.toList hexC.data.toList).isEmpty = digs t n := by
  subst hn
  rw [Bool.eq_iff_iff, List.isEmpty_iff, trimS_nil, digs_iff]
  constructor
  · intro h k hk
    have hk' : k < t.data.toList.length := by rw [Array.length_toList]; exact hk
    have := h _ (List.getElem_mem hk')
    rw [hex_has8, decide_eq_true_eq] at this
    rw [← byteAt_eq t k hk]
    exact this
  · intro h x hx
    obtain ⟨k, hk, rfl⟩ := List.mem_iff_getElem.1 hx
    have hk' : k < t.size := by rw [Array.length_toList] at hk; exact hk
    have := h k hk'
    rw [← byteAt_eq t k hk'] at this
    rw [hex_has8, decide_eq_true_eq]
    exact this
theorem rowF_put (f g : Nat → Int) (k : Nat) (hk : k < 16) (v : Int) (hg : g k = v) (h : ∀ j, j < 16 → j ≠ k → g j = f j) : ((rowF f).toList.take k ++ [Value.int .u8 v] ++ (rowF f).toList.drop (k + 1)).toArray = rowF g := by
  rw [← rowF_set f g k hk v hg h]
  apply Array.ext'
  rw [Array.toList_setIfInBounds, List.set_eq_take_append_cons_drop, if_pos (by rw [Array.length_toList, rowF_size]; exact hk)]
  simp
/-- The octets behind m characters. -/
def pk (t : ByteArray) (m j : Nat) : Int := if 2 * j + 1 < m then ub t j else if 2 * j + 1 = m then dv (byteAt t (2 * j)) else 0
theorem pk_step (t : ByteArray) (m : Nat) : pk t (m + 1) (m / 2) = 16 * pk t m (m / 2) + dv (byteAt t m) := by
  unfold pk
  by_cases h : m % 2 = 0
  · rw [if_neg (by omega), if_pos (by omega), if_neg (by omega), if_neg (by omega), show 2 * (m / 2) = m from by omega]; omega
  · rw [if_pos (by omega), if_neg (by omega), if_pos (by omega)]
    unfold ub
    rw [show 2 * (m / 2) + 1 = m from by omega]
theorem pk_other (t : ByteArray) (m j : Nat) (h : j ≠ m / 2) : pk t (m + 1) j = pk t m j := by
  unfold pk
  by_cases h1 : 2 * j + 1 < m
  · rw [if_pos (by omega), if_pos h1]
  · rw [if_neg (by omega), if_neg (by omega), if_neg h1, if_neg (by omega)]
theorem pk_bd (t : ByteArray) (m : Nat) (hd : ∀ k, k < m → 0 ≤ dv (byteAt t k)) : 0 ≤ pk t m (m / 2) ∧ pk t m (m / 2) < 16 := by
  unfold pk
  rw [if_neg (by omega)]
  split
  · have := dv_bd (byteAt t (2 * (m / 2)))
    exact ⟨hd _ (by omega), this.2⟩
  · omega
theorem pk_0 (t : ByteArray) : rowF (pk t 0) = row0 := by rw [← rowF_zero]; exact rowF_ext fun j hj => by unfold pk; rw [if_neg (by omega), if_neg (by omega)]
theorem pk_32 (t : ByteArray) : rowF (pk t 32) = rowF (ub t) := rowF_ext fun j hj => by unfold pk; rw [if_pos (by omega)]
set_option maxHeartbeats 2000000 in
set_option maxRecDepth 100000 in
theorem unhexP_c (t : ByteArray) (ht : t.size ≤ 9223372036854775807) (w : World) : Calls Tryd.prog 16 #[.string t] w (Ret w (.tuple #[.agg (unhS t).1, .int .i64 (unhS t).2])) := by
  by_cases hsz : t.size = 32
  · have Hun := Hd.mk (show unhS t = if digs t 32 = true then (rowF (ub t), 0) else (row0, 5) by unfold unhS; simp only [hsz, true_and])
    have hszi : (t.size : Int) = 32 := by omega
    have hne32 : ((t.size : Int) != 32) = false := bne_eq_false_iff_eq.2 (by omega)
    have hT := fun w => Any.strings_Trim_laid Tryd.lays160 (by kernel_rfl) t hexC w ht (by decide) (ascii_of_all (by decide))
    have htd := trim_digs t 32 hsz
    generalize Lib.trimS t.data.toList hexC.data.toList = tr at *
    have hemp : (⟨tr.toArray⟩ : ByteArray).toList.isEmpty = digs t 32 := by rw [Lib.toList_data]; exact htd
    obtain ⟨tr', etr⟩ : ∃ x, (⟨tr.toArray⟩ : ByteArray) = x := ⟨_, rfl⟩
    rw [etr] at hemp
    simp only [etr] at hT
    clear etr htd
    unfold hexC at hT
    have HT := Hd.mk hT
    clear hT
    cases hdg : digs t 32
    · rw [hdg] at hemp
      have HM := Hd.mk (show unhS t = (row0, 5) by rw [Hun.out, hdg]; rfl)
      go_enter Tryd.func16, Tryd.ntmps16
      go_wp2_with (first | (go_at_call 40; refine (HT.out _).mono ?_; rintro e w1 ⟨rfl, hb1⟩; have hrow := Hd.mk (show w1.heap[w.heap.size]? = some (.cells row0 28 (0, 0)) from Ext.blk hb1 (Ext.blk (Ext.alloc (Ext.refl _) _) (heap_alloc_new _ _))); have hrow4 := Hd.mk (show w1.heap[w.heap.size + 1]? = some (.cells row0 28 (0, 0)) from Ext.blk hb1 (heap_new _ _ (by simp)))) | (refine wpList_load_row rfl _ _ rfl (w.heap.size + 1) rfl _ row0 (0, 0) _ hrow4.out Tryd.underlying28 rfl (by kernel_rfl) ?_) | (refine wpList_store_row rfl _ _ _ rfl w.heap.size row0 rfl rfl _ _ hrow.out (by kernel_rfl) rfl row0_one ?_))
      refine bodyPost_ret (results_row_tmp Tryd.results16 _ _ w.heap.size _ _ _ _ (.int .i64 5) rfl (setRow_heap _ _ _ _ _ _ hrow.out) Tryd.underlying28 rfl (by kernel_rfl) rfl) rfl ?_
      exact ⟨by rw [HM.out], Ext.setRow (by repeat (first | exact Ext.refl _ | assumption | apply Ext.alloc | apply Ext.drew | apply Ext.drewN | apply Ext.bytes | apply Ext.iter | refine Ext.setCell ?_ (by simp; omega) _ | refine Ext.trans ?_ (by assumption))) (Nat.le_refl _) _⟩
    · rw [hdg] at hemp
      have hall := (digs_iff t 32).1 hdg
      have HM := Hd.mk (show unhS t = (rowF (ub t), 0) by rw [Hun.out, hdg]; rfl)
      go_enter Tryd.func16, Tryd.ntmps16
      go_wp2_with (go_at_call 40; refine (HT.out _).mono ?_; rintro e w1 ⟨rfl, hb1⟩; have H0 := Hd.mk (show w1.heap[w.heap.size]? = some (.cells row0 28 (0, 0)) from Ext.blk hb1 (Ext.blk (Ext.alloc (Ext.refl _) _) (heap_alloc_new _ _))); have H1 := Hd.mk (show w1.heap[w.heap.size + 1]? = some (.cells (rowF (pk t 0)) 28 (0, 0)) from (pk_0 t).symm ▸ Ext.blk hb1 (heap_new _ _ (by simp))))
      have hE : Ext w w1 := (by repeat (first | exact Ext.refl _ | assumption | apply Ext.alloc | apply Ext.drew | apply Ext.drewN | apply Ext.bytes | apply Ext.iter | refine Ext.setCell ?_ (by simp; omega) _ | refine Ext.trans ?_ (by assumption)))
      clear hb1
      go_loopw [15] (fun vi wr => ∃ m : Nat, m ≤ 32 ∧ vi = .int .i64 m ∧ Exts (· = w.heap.size + 1) w1 wr ∧ Hd (wr.heap[w.heap.size + 1]? = some (.cells (rowF (pk t m)) 28 (0, 0)))) (fun i _ => 32 - (intOf i).toNat)
      case atStart => exact ⟨0, by omega, rfl, Exts.refl _, H1⟩
      case round =>
        obtain ⟨m, hm, rfl, hEm, hrow⟩ := hrel
        by_cases hlt : m < 32
        · have hlti : (m : Int) < 32 := by omega
          have hx : ∀ w, (Instr.index 9 (.string t) (.int .i64 m)).run Tryd.prog w = .ok (.int .u8 (byteAt t m)) w := fun w => run_byte t m (by omega) w
          have hb := byteAt_bd t m
          have hd := dv_bd (byteAt t m)
          have hd0 := hall m hlt
          have hI := fun w => Tryd.strings_IndexByte hexC (byteAt t m) w
          rw [show Lib.indexByte hexC.data.toList (byteAt t m).toNat.toUInt8 = dv (byteAt t m) by
            have h := hex_at ⟨(byteAt t m).toNat, by omega⟩
            simp only at h
            rw [show (((byteAt t m).toNat : Nat) : Int) = byteAt t m from Int.toNat_of_nonneg hb.1] at h
            exact h] at hI
          have hst := pk_step t m
          have hpb := pk_bd t m (fun k hk => hall k (by omega))
          obtain ⟨j, ej⟩ : ∃ j, m / 2 = j := ⟨_, rfl⟩
          have hj : j < 16 := by omega
          have hji : (j : Int) < 16 := by omega
          rw [ej] at hst hpb
          have hoth := Hd.mk (fun i (hi : i ≠ j) => pk_other t m i (by omega))
          have hcell := row_cell hrow.out (rowF_at (pk t m) j hj)
          have Hst := Hd.mk hst
          generalize pk t m j = v at *
          generalize byteAt t m = c at *
          generalize dv c = d at *
          obtain ⟨v, rfl⟩ := Int.eq_ofNat_of_zero_le hpb.1
          obtain ⟨d, rfl⟩ := Int.eq_ofNat_of_zero_le hd0
          have hor := or4 ⟨v, by omega⟩ ⟨d, by omega⟩
          simp only at hor
          have q1 : (m : Int).tdiv 2 = (j : Int) := by rw [Int.tdiv_eq_ediv_of_nonneg (by omega)]; omega
          have q2 : IntKind.i64.wrap (j : Int) = (j : Int) := by rw [IntKind.wrap_i64]; omega
          have q3 : IntKind.u8.wrap (d : Int) = (d : Int) := by rw [IntKind.wrap_u8]; omega
          unfold hexC at hI
          have HI := Hd.mk hI
          clear hst hI ej
          go_upto_region 3 with fail
          have hcc : ∀ w', Ext wr w' → w'.cell? ⟨w.heap.size + 1, j, none⟩ = some (.int .u8 (v : Int)) := fun w' h => Ext.cell h hcell
          refine wp_region_x (Ext wr) true (by kernel_rfl) (by kernel_rfl) (by repeat (first | exact Ext.refl _ | assumption | apply Ext.alloc | apply Ext.drew | apply Ext.drewN | apply Ext.bytes | apply Ext.iter | refine Ext.setCell ?_ (by simp; omega) _ | refine Ext.trans ?_ (by assumption))) ?_
          (repeat (first
           | (refine wpX_skip rfl ?_; (try simp only [Act.put, List.setIfInBounds_toArray, List.set_cons_zero, List.set_cons_succ]))
           | (apply wpX_still; exact rfl; exact rfl; (intro w' hw'; have hcw := hcc w' hw'; go_simp; first | done | exact rfl); (try simp only [Act.put, List.setIfInBounds_toArray, List.set_cons_zero, List.set_cons_succ]))))
          refine wpX_busy rfl rfl ?_
          go_simp
          go_at_call 45
          refine (HI.out _).mono ?_
          rintro e wc ⟨rfl, rfl⟩
          refine ⟨_, rfl, (by repeat (first | exact Ext.refl _ | assumption | apply Ext.alloc | apply Ext.drew | apply Ext.drewN | apply Ext.bytes | apply Ext.iter | refine Ext.setCell ?_ (by simp; omega) _ | refine Ext.trans ?_ (by assumption))), ?_⟩
          (try simp only [Act.put, List.setIfInBounds_toArray, List.set_cons_zero, List.set_cons_succ])
          (repeat (first
           | (refine wpX_skip rfl ?_; (try simp only [Act.put, List.setIfInBounds_toArray, List.set_cons_zero, List.set_cons_succ]))
           | (apply wpX_still; exact rfl; exact rfl; (intro w' hw'; have hcw := hcc w' hw'; go_simp; first | done | exact rfl); (try simp only [Act.put, List.setIfInBounds_toArray, List.set_cons_zero, List.set_cons_succ]))))
          refine wpX_last rfl rfl (busy_store_cell _ _ _ rfl (w.heap.size + 1) j (.int .u8 (16 * (v : Int) + (d : Int))) rfl rfl _ _ (Ext.blk (by repeat (first | exact Ext.refl _ | assumption | apply Ext.alloc | apply Ext.drew | apply Ext.drewN | apply Ext.bytes | apply Ext.iter | refine Ext.setCell ?_ (by simp; omega) _ | refine Ext.trans ?_ (by assumption))) hrow.out) (by rw [rowF_size]; exact hj) (by kernel_rfl) rfl rfl trivial ?_)
          refine wpX_nil fun wf hwf => ?_
          have hEf : Exts (· = w.heap.size + 1) w1 wf := by rw [hwf.out]; exact (hEm.drew).setRow (.inl rfl) _
          have hrf := Hd.mk (show wf.heap[w.heap.size + 1]? = some (.cells (rowF (pk t (m + 1))) 28 (0, 0)) by
            rw [hwf.out, ← rowF_put (pk t m) (pk t (m + 1)) j hj _ Hst.out (fun i _ hi => hoth.out i hi)]
            exact setRow_heap _ _ _ _ _ _ (show wr.drew.heap[w.heap.size + 1]? = _ from hrow.out))
          clear hwf
          go_wp2
          go_roundw
          case rel => exact ⟨m + 1, by omega, by go_num, hEf, hrf⟩
          case measure => simp [intOf]; omega
        · obtain rfl : m = 32 := by omega
          have hz := Hd.mk (hEm.blk H0.out (by omega))
          have hts := rowF_size (pk t 32)
          have hto := rowF_one (pk t 32)
          have HM' := Hd.mk (show unhS t = (rowF (pk t 32), 0) by rw [HM.out, pk_32])
          generalize rowF (pk t 32) = T at *
          have Hts := Hd.mk hts
          have Hto := Hd.mk hto
          clear hts hto
          go_wp2_with (first | (refine wpList_load_row rfl _ _ rfl (w.heap.size + 1) rfl _ T (0, 0) _ hrow.out Tryd.underlying28 rfl (by rw [Hts.out]; kernel_rfl) ?_) | (refine wpList_store_row rfl _ _ _ rfl w.heap.size T rfl rfl _ _ hz.out (by rw [Hts.out]; kernel_rfl) (by rw [Hts.out]; rfl) Hto.out ?_))
          refine bodyPost_ret (results_row_tmp Tryd.results16 _ _ w.heap.size _ _ _ _ (.int .i64 0) rfl (setRow_heap _ _ _ _ _ _ hz.out) Tryd.underlying28 rfl (by rw [Hts.out]; kernel_rfl) rfl) rfl ?_
          have hEw : Ext w wr := Exts.ext (Exts.trans (Ext.exts hE) hEm) (fun j (hj : j = w.heap.size + 1) => by omega)
          exact ⟨by rw [HM'.out], Ext.setRow hEw (Nat.le_refl _) _⟩
  · have HM := Hd.mk (show unhS t = (row0, 5) by unfold unhS; rw [if_neg (fun h => hsz h.1)])
    have hne : ((t.size : Int) != 32) = true := bne_iff_ne.2 (by omega)
    go_enter Tryd.func16, Tryd.ntmps16
    have hrow := Hd.mk (show ((w.alloc (.cells row0 28)).alloc (.cells row0 28)).heap[w.heap.size]? = some (.cells row0 28 (0, 0)) from Ext.blk (Ext.alloc (Ext.refl _) _) (heap_alloc_new _ _))
    go_wp2_with (refine wpList_store_row rfl _ _ _ rfl w.heap.size row0 rfl rfl _ _ hrow.out (by kernel_rfl) rfl row0_one ?_)
    refine bodyPost_ret (results_row_tmp Tryd.results16 _ _ w.heap.size _ _ _ _ (.int .i64 5) rfl (setRow_heap _ _ _ _ _ _ hrow.out) Tryd.underlying28 rfl (by kernel_rfl) rfl) rfl ?_
    exact ⟨by rw [HM.out], Ext.setRow (by repeat (first | exact Ext.refl _ | assumption | apply Ext.alloc | apply Ext.drew | apply Ext.drewN | apply Ext.bytes | apply Ext.iter | refine Ext.setCell ?_ (by simp; omega) _ | refine Ext.trans ?_ (by assumption))) (Nat.le_refl _) _⟩
end Go.Proofs.YtimecmleaeimkaaDoor
