/- DigestPieces' walk; digests in progress compared. -/
import Derived.Test.YtimecmleaeimkaaDoorDigPe
import Derived.Test.YtimecmleaeimkaaDoorBase6
namespace Go.Proofs.YtimecmleaeimkaaDoor
open Go.RowKit
open Go.Deep (blk_setCell_other)
set_option linter.unusedVariables false
theorem rowP_list (f : Nat → Int) : rowF f = (((List.range 16).map f).map (Value.int .u8)).toArray := by unfold rowF; rw [List.map_map]; rfl
theorem neq_rowP (f : Nat → Int) (w : World) : (binOp .neq 28 (.agg (rowF f)) (.agg (rowF f))).run Tryd.prog w = .ok (.bool false) w := by
  rw [rowP_list, run_neq_ints w .u8 28 5 16 Tryd.underlying28 Tryd.underlying5 (fun w => by kernel_rfl) _ _ (by simp) (by simp)]
  simp
set_option maxHeartbeats 8000000 in
set_option maxRecDepth 100000 in
theorem DigestPieces_c (S L : ByteArray) (hS : S.size ≤ 9223372036854775807) (hL : L.size ≤ 9223372036854775807) (n : Nat) (hn : n < 65536) (M : ByteArray) (hM : M.size ≤ 9223372036854775807)
    (bw : Nat) (hbw : bw < 256) (ba : Nat) (hba : ba < 256) (bn : Int) (d0 : Dg) (hd0 : d0.r.size ≤ 9223372036854775807) (w : World) :
    Calls Tryd.prog 5 #[.agg #[.string S, .string L, .int .u16 n], .string M, .agg #[.int .u8 bw, .int .u8 ba, .int .i64 bn], d0.v] w (Ret w (.bool true)) := by
  have hO := fun w => octets_c S L hS hL n hn false w
  have hxs := longS_size S L n false
  generalize longS S L n false = X at *
  have hMR := fun w => moreR_c .new X (by decide) (by omega) w
  have hp1 := more_rest .new X
  generalize moreS .new X = p1 at *
  obtain ⟨d1, er1⟩ := p1
  simp only at hp1 hMR
  have hB1 := fun w => bend_c bw ba bn d1 w
  have hB2 := fun w => bend_c bw ba bn .new w
  have hp2 := bend_rest bw ba bn d1 hp1
  have hp4 := bend_rest bw ba bn .new (by decide)
  generalize bendS bw ba bn d1 = d2 at *
  generalize bendS bw ba bn .new = d4 at *
  have hN := newP_c
  have hNR := newR_c
  obtain ⟨U, eU⟩ : ∃ u, M.extract 0 (min M.size 300) = u := ⟨_, rfl⟩
  have hus : U.size = min M.size 300 := by rw [← eU, ByteArray.size_extract]; omega
  rw [← hus] at eU
  have m1 : min (M.size : Int) 300 = (U.size : Int) := by omega
  have r1 : 0 ≤ (U.size : Int) ∧ (U.size : Int) ≤ M.size := by omega
  have hu3 : U.size ≤ 300 := by omega
  obtain ⟨⟨a0, b0, c0, f0⟩, l0, Y⟩ := d0
  simp only at hd0
  obtain ⟨Z, eZ⟩ : ∃ u, Y.extract 0 (min Y.size 70) = u := ⟨_, rfl⟩
  have hzs : Z.size = min Y.size 70 := by rw [← eZ, ByteArray.size_extract]; omega
  rw [← hzs] at eZ
  have m2 : min (Y.size : Int) 70 = (Z.size : Int) := by omega
  have r2 : 0 ≤ (Z.size : Int) ∧ (Z.size : Int) ≤ Y.size := by omega
  have hz7 : Z.size ≤ 70 := by omega
  have hqn := neq_dg .new
  obtain ⟨⟨a1, b1, c1, f1⟩, l1, y1⟩ := d1
  obtain ⟨⟨a2, b2, c2, f2⟩, l2, y2⟩ := d2
  obtain ⟨⟨a4, b4, c4, f4⟩, l4, y4⟩ := d4
  simp only at hp1 hp2 hp4
  simp only [Dg.v, Dg.new, dgV, dgL, begin4] at hMR hB1 hB2 hN hNR hqn ⊢
  have HO := Hd.mk hO
  have HMR := Hd.mk hMR
  have HB1 := Hd.mk hB1
  have HB2 := Hd.mk hB2
  have HN := Hd.mk hN
  have HNR := Hd.mk hNR
  clear hO hMR hB1 hB2 hN hNR hus hzs
  go_enter Tryd.func5, Tryd.ntmps5
  have HR0 := Hd.mk (Ext.blk (Ext.alloc (Ext.alloc (Ext.refl _) (.cells #[.int .u8 bw, .int .u8 ba, .int .i64 bn] 38)) (.cells #[.int .i64 a0, .int .i64 b0, .int .i64 c0, .int .i64 f0, .int .i64 l0, .string Y] 41)) (heap_alloc_new w (.cells #[.string S, .string L, .int .u16 n] 24)))
  have HR1 := Hd.mk (Ext.blk (Ext.alloc (Ext.refl _) (.cells #[.int .i64 a0, .int .i64 b0, .int .i64 c0, .int .i64 f0, .int .i64 l0, .string Y] 41)) (heap_alloc_at (w := w.alloc (.cells #[.string S, .string L, .int .u16 n] 24)) (o := (.cells #[.int .u8 bw, .int .u8 ba, .int .i64 bn] 38)) (g := w.heap.size + 1) (by simp)))
  have HR2 := Hd.mk (heap_alloc_at (w := (w.alloc (.cells #[.string S, .string L, .int .u16 n] 24)).alloc (.cells #[.int .u8 bw, .int .u8 ba, .int .i64 bn] 38)) (o := .cells #[.int .i64 a0, .int .i64 b0, .int .i64 c0, .int .i64 f0, .int .i64 l0, .string Y] 41) (g := w.heap.size + 1 + 1) (by simp))
  go_upto_region 3 with (go_at_call 11; refine (works_c _).mono ?_; rintro e w1 ⟨rfl, hb1⟩)
  have hE1 : Ext w w1 := (by repeat (first | exact Ext.refl _ | assumption | apply Ext.alloc | apply Ext.drew | apply Ext.drewN | apply Ext.bytes | apply Ext.iter | refine Ext.setCell ?_ (by simp; omega) _ | refine Ext.trans ?_ (by assumption)))
  have K0 := Hd.mk (Ext.blk hb1 HR0.out)
  have K1 := Hd.mk (Ext.blk hb1 HR1.out)
  have K2 := Hd.mk (Ext.blk hb1 HR2.out)
  clear hb1 HR0 HR1 HR2
  have hc5 := row_cell (j := 5) K2.out rfl
  have hf5 := row_frozen K2.out 5
  go_upto_region 5 with fail
  refine wp_name fun W3 hW3 => ?_
  have hE3 : Ext w W3 := by rw [hW3.out]; exact (by repeat (first | exact Ext.refl _ | assumption | apply Ext.alloc | apply Ext.drew | apply Ext.drewN | apply Ext.bytes | apply Ext.iter | refine Ext.setCell ?_ (by simp; omega) _ | refine Ext.trans ?_ (by assumption)))
  have L0 := Hd.mk (show W3.heap[w.heap.size]? = some (.cells #[.string S, .string L, .int .u16 n] 24 (0, 0)) by rw [hW3.out]; exact (blk_setCell_other _ _ _ _ (by first | omega | (simp; done) | (simp; omega))).trans K0.out)
  have L1 := Hd.mk (show W3.heap[w.heap.size + 1]? = some (.cells #[.int .u8 bw, .int .u8 ba, .int .i64 bn] 38 (0, 0)) by rw [hW3.out]; exact (blk_setCell_other _ _ _ _ (by first | omega | (simp; done) | (simp; omega))).trans K1.out)
  have L2 := Hd.mk (show W3.heap[w.heap.size + 1 + 1]? = some (.cells (dgL ⟨a0, b0, c0, f0⟩ l0 Z) 41 (0, 0)) by rw [hW3.out]; exact setCell_row K2.out _)
  clear hc5 hf5 K0 K1 K2 hE1 hW3
  apply wp_cutF (R := fun g w' => Ext W3 w' ∧ w'.heap[g]? = some (.cells (dgL ⟨a1, b1, c1, f1⟩ l1 y1) 41 (0, 0)))
  case h1 =>
    refine wp_region_o (Ext W3) [] (fun _ _ => False) [[1, 0, 2, 3, 4, 5, 6, 7, 8, 9], [1, 0, 2, 7, 3, 4, 5, 6, 8, 9], [1, 0, 7, 2, 3, 4, 5, 6, 8, 9], [1, 7, 0, 2, 3, 4, 5, 6, 8, 9]] (by kernel_rfl) (by kernel_rfl) (by repeat (first | exact Ext.refl _ | assumption | apply Ext.alloc | apply Ext.drew | apply Ext.drewN | apply Ext.bytes | apply Ext.iter | refine Ext.setCell ?_ (by simp; omega) _ | refine Ext.trans ?_ (by assumption))) (fun _ _ _ h => h.elim) ?_
    intro s hs
    simp only [List.mem_cons, List.not_mem_nil, or_false] at hs
    rcases hs with rfl | rfl | rfl | rfl
    all_goals
      (repeat (first
       | (refine wpD_still rfl rfl rfl (still_load_row _ _ rfl w.heap.size rfl _ _ (0, 0) _ (fun w hw => Ext.blk hw L0.out) Tryd.underlying24 rfl (by kernel_rfl)) rfl ?_; (try simp only [List.getElem_toArray, List.getElem_cons_zero, List.getElem_cons_succ, Act.put, List.setIfInBounds_toArray, List.set_cons_zero, List.set_cons_succ]))
       | (refine wpD_alloc W3 #[.int .i64 0, .int .i64 0, .int .i64 0, .int .i64 0, .int .i64 0, .string ⟨#[]⟩] 41 rfl rfl rfl rfl (fun w => by simp only [List.getElem_toArray, List.getElem_cons_zero, List.getElem_cons_succ]; go_simp) (by repeat (first | exact Ext.refl _ | assumption | exact Ext.drew (Ext.refl _) | refine Ext.trans ?_ (by assumption))) (fun w' h => by repeat (first | exact Ext.refl _ | assumption | exact Ext.drew (Ext.refl _) | refine Ext.trans ?_ (by assumption))) (fun g9 Wg hg hEg hge => ?_); (try simp only [List.getElem_toArray, List.getElem_cons_zero, List.getElem_cons_succ, Act.put, List.setIfInBounds_toArray, List.set_cons_zero, List.set_cons_succ]))
       | (refine wpD_busy rfl rfl rfl ?_; (try simp only [List.getElem_toArray, List.getElem_cons_zero, List.getElem_cons_succ]); go_simp; go_at_call 20; refine (HNR.out _).mono ?_; rintro e wa ⟨rfl, hba⟩; (first | refine .inl ⟨_, rfl, (by first | exact .inr (by repeat (first | exact Ext.refl _ | assumption | apply Ext.alloc | apply Ext.drew | apply Ext.drewN | apply Ext.bytes | apply Ext.iter | refine Ext.setCell ?_ (by simp; omega) _ | refine Ext.trans ?_ (by assumption))) | exact (by repeat (first | exact Ext.refl _ | assumption | apply Ext.alloc | apply Ext.drew | apply Ext.drewN | apply Ext.bytes | apply Ext.iter | refine Ext.setCell ?_ (by simp; omega) _ | refine Ext.trans ?_ (by assumption)))), ?_⟩ | refine ⟨_, rfl, (by first | exact .inr (by repeat (first | exact Ext.refl _ | assumption | apply Ext.alloc | apply Ext.drew | apply Ext.drewN | apply Ext.bytes | apply Ext.iter | refine Ext.setCell ?_ (by simp; omega) _ | refine Ext.trans ?_ (by assumption))) | exact (by repeat (first | exact Ext.refl _ | assumption | apply Ext.alloc | apply Ext.drew | apply Ext.drewN | apply Ext.bytes | apply Ext.iter | refine Ext.setCell ?_ (by simp; omega) _ | refine Ext.trans ?_ (by assumption)))), ?_⟩); (try simp only [List.getElem_toArray, List.getElem_cons_zero, List.getElem_cons_succ, Act.put, List.setIfInBounds_toArray, List.set_cons_zero, List.set_cons_succ]))
       | (refine wpD_busy rfl rfl rfl ?_; (try simp only [List.getElem_toArray, List.getElem_cons_zero, List.getElem_cons_succ]); go_simp; go_at_call 12; refine (HO.out _).mono ?_; rintro e wb ⟨rfl, hbb⟩; (first | refine .inl ⟨_, rfl, (by first | exact .inr (by repeat (first | exact Ext.refl _ | assumption | apply Ext.alloc | apply Ext.drew | apply Ext.drewN | apply Ext.bytes | apply Ext.iter | refine Ext.setCell ?_ (by simp; omega) _ | refine Ext.trans ?_ (by assumption))) | exact (by repeat (first | exact Ext.refl _ | assumption | apply Ext.alloc | apply Ext.drew | apply Ext.drewN | apply Ext.bytes | apply Ext.iter | refine Ext.setCell ?_ (by simp; omega) _ | refine Ext.trans ?_ (by assumption)))), ?_⟩ | refine ⟨_, rfl, (by first | exact .inr (by repeat (first | exact Ext.refl _ | assumption | apply Ext.alloc | apply Ext.drew | apply Ext.drewN | apply Ext.bytes | apply Ext.iter | refine Ext.setCell ?_ (by simp; omega) _ | refine Ext.trans ?_ (by assumption))) | exact (by repeat (first | exact Ext.refl _ | assumption | apply Ext.alloc | apply Ext.drew | apply Ext.drewN | apply Ext.bytes | apply Ext.iter | refine Ext.setCell ?_ (by simp; omega) _ | refine Ext.trans ?_ (by assumption)))), ?_⟩); (try simp only [List.getElem_toArray, List.getElem_cons_zero, List.getElem_cons_succ, Act.put, List.setIfInBounds_toArray, List.set_cons_zero, List.set_cons_succ]))
       | (refine wpD_busy rfl rfl rfl ?_; (try simp only [List.getElem_toArray, List.getElem_cons_zero, List.getElem_cons_succ]); go_simp; go_at_call 19; refine (HMR.out _).mono ?_; rintro e wc ⟨rfl, hbc⟩; (first | refine .inl ⟨_, rfl, (by first | exact .inr (by repeat (first | exact Ext.refl _ | assumption | apply Ext.alloc | apply Ext.drew | apply Ext.drewN | apply Ext.bytes | apply Ext.iter | refine Ext.setCell ?_ (by simp; omega) _ | refine Ext.trans ?_ (by assumption))) | exact (by repeat (first | exact Ext.refl _ | assumption | apply Ext.alloc | apply Ext.drew | apply Ext.drewN | apply Ext.bytes | apply Ext.iter | refine Ext.setCell ?_ (by simp; omega) _ | refine Ext.trans ?_ (by assumption)))), ?_⟩ | refine ⟨_, rfl, (by first | exact .inr (by repeat (first | exact Ext.refl _ | assumption | apply Ext.alloc | apply Ext.drew | apply Ext.drewN | apply Ext.bytes | apply Ext.iter | refine Ext.setCell ?_ (by simp; omega) _ | refine Ext.trans ?_ (by assumption))) | exact (by repeat (first | exact Ext.refl _ | assumption | apply Ext.alloc | apply Ext.drew | apply Ext.drewN | apply Ext.bytes | apply Ext.iter | refine Ext.setCell ?_ (by simp; omega) _ | refine Ext.trans ?_ (by assumption)))), ?_⟩); (try simp only [List.getElem_toArray, List.getElem_cons_zero, List.getElem_cons_succ, Act.put, List.setIfInBounds_toArray, List.set_cons_zero, List.set_cons_succ]))
       | (apply wpD_pure; exact rfl; exact rfl; exact rfl; (intro w'; (try simp only [List.getElem_toArray, List.getElem_cons_zero, List.getElem_cons_succ]); go_simp; first | done | exact rfl); (try simp only [List.getElem_toArray, List.getElem_cons_zero, List.getElem_cons_succ, Act.put, List.setIfInBounds_toArray, List.set_cons_zero, List.set_cons_succ]))))
      refine wpD_store_row _ _ _ rfl rfl rfl rfl g9 (dgL ⟨a1, b1, c1, f1⟩ l1 y1) rfl rfl _ _ (Ext.blk (by repeat (first | exact Ext.refl _ | assumption | exact Ext.drew (Ext.refl _) | refine Ext.trans ?_ (by assumption))) hg.out) (by kernel_rfl) rfl (dgL_one _ _ _) (.inr (Ext.setRow (by repeat (first | exact Ext.refl _ | assumption | exact Ext.drew (Ext.refl _) | refine Ext.trans ?_ (by assumption))) hge _)) ?_
      (repeat (first
       | (apply wpD_pure; exact rfl; exact rfl; exact rfl; (intro w'; (try simp only [List.getElem_toArray, List.getElem_cons_zero, List.getElem_cons_succ]); go_simp; first | done | exact rfl); (try simp only [List.getElem_toArray, List.getElem_cons_zero, List.getElem_cons_succ, Act.put, List.setIfInBounds_toArray, List.set_cons_zero, List.set_cons_succ]))))
      refine wpD_end ?_
      first | exact ⟨rfl, g9, rfl, (Ext.setRow (by repeat (first | exact Ext.refl _ | assumption | exact Ext.drew (Ext.refl _) | refine Ext.trans ?_ (by assumption))) hge _), (setRow_heap _ _ _ _ _ _ (Ext.blk (by repeat (first | exact Ext.refl _ | assumption | exact Ext.drew (Ext.refl _) | refine Ext.trans ?_ (by assumption))) hg.out))⟩ | exact ⟨g9, rfl, (Ext.setRow (by repeat (first | exact Ext.refl _ | assumption | exact Ext.drew (Ext.refl _) | refine Ext.trans ?_ (by assumption))) hge _), (setRow_heap _ _ _ _ _ _ (Ext.blk (by repeat (first | exact Ext.refl _ | assumption | exact Ext.drew (Ext.refl _) | refine Ext.trans ?_ (by assumption))) hg.out))⟩
  case h2 =>
    rintro g9 W5 ⟨hE5, hM3⟩
    have M3 := Hd.mk hM3
    have M0 := Hd.mk (Ext.blk hE5 L0.out)
    have M1 := Hd.mk (Ext.blk hE5 L1.out)
    have M2 := Hd.mk (Ext.blk hE5 L2.out)
    have hE5' : Ext w W5 := Ext.trans hE3 hE5
    clear hE5 hM3 L0 L1 L2 hE3
    go_upto_region 8 with (first | (go_at_call 21; refine (HN.out _).mono ?_; rintro e w6 ⟨rfl, hb6⟩) | (go_at_call 20; refine (HNR.out _).mono ?_; rintro e w7 ⟨rfl, hb7⟩))
    have hE7 : Ext w w7 := Ext.trans (Ext.trans hE5' hb6) hb7
    have N0 := Hd.mk (Ext.blk (Ext.trans hb6 hb7) M0.out)
    have N1 := Hd.mk (Ext.blk (Ext.trans hb6 hb7) M1.out)
    have N2 := Hd.mk (Ext.blk (Ext.trans hb6 hb7) M2.out)
    have N3 := Hd.mk (Ext.blk (Ext.trans hb6 hb7) M3.out)
    clear M0 M1 M2 M3 hE5' hb6 hb7
    refine wp_region_x (Ext w7) false (by kernel_rfl) (by kernel_rfl) (by repeat (first | exact Ext.refl _ | assumption | apply Ext.alloc | apply Ext.drew | apply Ext.drewN | apply Ext.bytes | apply Ext.iter | refine Ext.setCell ?_ (by simp; omega) _ | refine Ext.trans ?_ (by assumption))) ?_
    (repeat (first
     | (refine wpX_still rfl rfl (still_load_row _ _ rfl g9 rfl _ #[.int .i64 a1, .int .i64 b1, .int .i64 c1, .int .i64 f1, .int .i64 l1, .string y1] (0, 0) _ (fun w hw => Ext.blk hw N3.out) Tryd.underlying41 rfl (by kernel_rfl)) ?_; (try simp only [Act.put, List.setIfInBounds_toArray, List.set_cons_zero, List.set_cons_succ]))
     | (refine wpX_still rfl rfl (still_load_row _ _ rfl (w.heap.size + 1) rfl _ _ (0, 0) _ (fun w hw => Ext.blk hw N1.out) Tryd.underlying38 rfl (by kernel_rfl)) ?_; (try simp only [Act.put, List.setIfInBounds_toArray, List.set_cons_zero, List.set_cons_succ]))
     | (refine wpX_still rfl rfl (still_load_row _ _ rfl (w.heap.size + 1 + 1) rfl _ #[.int .i64 a0, .int .i64 b0, .int .i64 c0, .int .i64 f0, .int .i64 l0, .string Z] (0, 0) _ (fun w hw => Ext.blk hw N2.out) Tryd.underlying41 rfl (by kernel_rfl)) ?_; (try simp only [Act.put, List.setIfInBounds_toArray, List.set_cons_zero, List.set_cons_succ]))
     | (refine wpX_busy rfl rfl ?_; go_simp; go_at_call 20; refine (HNR.out _).mono ?_; rintro e wa ⟨rfl, hba⟩; refine ⟨_, rfl, (by repeat (first | exact Ext.refl _ | assumption | apply Ext.alloc | apply Ext.drew | apply Ext.drewN | apply Ext.bytes | apply Ext.iter | refine Ext.setCell ?_ (by simp; omega) _ | refine Ext.trans ?_ (by assumption))), ?_⟩; (try simp only [Act.put, List.setIfInBounds_toArray, List.set_cons_zero, List.set_cons_succ]))
     | (refine wpX_busy rfl rfl ?_; go_simp; go_at_call 22; (with_reducible refine (HB1.out _).mono ?_); rintro e wb ⟨rfl, hbb⟩; refine ⟨_, rfl, (by repeat (first | exact Ext.refl _ | assumption | apply Ext.alloc | apply Ext.drew | apply Ext.drewN | apply Ext.bytes | apply Ext.iter | refine Ext.setCell ?_ (by simp; omega) _ | refine Ext.trans ?_ (by assumption))), ?_⟩; (try simp only [Act.put, List.setIfInBounds_toArray, List.set_cons_zero, List.set_cons_succ]))
     | (refine wpX_busy rfl rfl ?_; go_simp; go_at_call 22; (with_reducible refine (HB2.out _).mono ?_); rintro e wd ⟨rfl, hbd⟩; refine ⟨_, rfl, (by repeat (first | exact Ext.refl _ | assumption | apply Ext.alloc | apply Ext.drew | apply Ext.drewN | apply Ext.bytes | apply Ext.iter | refine Ext.setCell ?_ (by simp; omega) _ | refine Ext.trans ?_ (by assumption))), ?_⟩; (try simp only [Act.put, List.setIfInBounds_toArray, List.set_cons_zero, List.set_cons_succ]))
     | (apply wpX_still; exact rfl; exact rfl; (intro w' hw'; go_simp; first | done | exact rfl); (try simp only [Act.put, List.setIfInBounds_toArray, List.set_cons_zero, List.set_cons_succ]))))
    refine wpX_nil fun W8 hW8 => ?_
    have hE8 : Ext w W8 := by rw [hW8.out]; exact (by repeat (first | exact Ext.refl _ | assumption | apply Ext.alloc | apply Ext.drew | apply Ext.drewN | apply Ext.bytes | apply Ext.iter | refine Ext.setCell ?_ (by simp; omega) _ | refine Ext.trans ?_ (by assumption)))
    clear hW8 hba hbb hbd N0 N1 N2 N3 hE7
    go_wp2
    go_loopw [55] (fun vi wr => ∃ k : Nat, k ≤ 4 ∧ vi = .int .i64 k ∧ Ext W8 wr) (fun i _ => 4 - (intOf i).toNat)
    case atStart => exact ⟨0, by omega, rfl, Ext.refl _⟩
    case round =>
      obtain ⟨k, hk, rfl, hEk⟩ := hrel
      by_cases hlt : k < 4
      · have hlti : (k : Int) < 4 := by omega
        obtain ⟨x, hxr, hix⟩ : ∃ x : Dg, x.r.size ≤ 100 ∧ ∀ w, (Instr.index 46 (.agg #[.int .i64 a1, .int .i64 b1, .int .i64 c1, .int .i64 f1, .int .i64 l1, .string y1, .int .i64 a2, .int .i64 b2, .int .i64 c2, .int .i64 f2, .int .i64 l2, .string y2, .int .i64 a0, .int .i64 b0, .int .i64 c0, .int .i64 f0, .int .i64 l0, .string Z, .int .i64 a4, .int .i64 b4, .int .i64 c4, .int .i64 f4, .int .i64 l4, .string y4]) (.int .i64 k)).run Tryd.prog w = .ok (.agg (dgL x.x x.l x.r)) w := by
          match k, hlt with
          | 0, _ => exact ⟨⟨⟨a1, b1, c1, f1⟩, l1, y1⟩, hp1, fun w => by kernel_rfl⟩
          | 1, _ => exact ⟨⟨⟨a2, b2, c2, f2⟩, l2, y2⟩, hp2, fun w => by kernel_rfl⟩
          | 2, _ => exact ⟨⟨⟨a0, b0, c0, f0⟩, l0, Z⟩, by show Z.size ≤ 100; omega, fun w => by kernel_rfl⟩
          | 3, _ => exact ⟨⟨⟨a4, b4, c4, f4⟩, l4, y4⟩, hp4, fun w => by kernel_rfl⟩
        have hM := fun w => moreP_c x U (by omega) (by omega) w
        have hMR := fun w => moreR_c x U (by omega) (by omega) w
        have hD := fun w => doneP_c x w
        have hDR := fun w => doneR_c x w
        have hK := fun w => checkP_c x.x x.l x.r w
        have hKR := fun w => checkR_c x.x x.l x.r w
        obtain ⟨gT, egT⟩ := done_row x
        rw [egT] at hD hDR
        have hqm := neq_dg (moreS x U).1
        have hqt := neq_rowP gT
        have hTs := rowF_size gT
        have hTo := rowF_one gT
        generalize rowF gT = T at *
        generalize (doneS x).2 = eD at *
        generalize (moreS x U).2 = eM at *
        generalize (moreS x U).1 = y at *
        generalize checkS x.x x.l x.r = eK at *
        simp only [Dg.v, dgV] at hM hMR hD hDR hK hKR hqm
        have hXs : (dgL x.x x.l x.r).size = 6 := rfl
        have hXo := dgL_one x.x x.l x.r
        have hYs : (dgL y.x y.l y.r).size = 6 := rfl
        have hYo := dgL_one y.x y.l y.r
        generalize dgL x.x x.l x.r = XR at *
        generalize dgL y.x y.l y.r = YR at *
        have he1 : (eM != eM) = false := by simp
        have he2 : (eD != eD) = false := by simp
        have he3 : (eK != eK) = false := by simp
        have HM := Hd.mk hM
        have HMr := Hd.mk hMR
        have HD := Hd.mk hD
        have HDr := Hd.mk hDR
        have HK := Hd.mk hK
        have HKr := Hd.mk hKR
        have Hxs := Hd.mk hXs
        have Hxo := Hd.mk hXo
        have Hys := Hd.mk hYs
        have Hyo := Hd.mk hYo
        have Hts := Hd.mk hTs
        have Hto := Hd.mk hTo
        clear hM hMR hD hDR hK hKR hXs hXo hYs hYo hTs hTo hxr egT
        have r12_0 := Hd.mk (heap_alloc_new wr (.cells #[.int .i64 0, .int .i64 0, .int .i64 0, .int .i64 0, .int .i64 0, .string ⟨#[]⟩] 41))
        have r12 := Hd.mk (setRow_heap _ _ _ XR _ _ r12_0.out)
        have hE12 : Ext W8 ((wr.alloc (.cells #[.int .i64 0, .int .i64 0, .int .i64 0, .int .i64 0, .int .i64 0, .string ⟨#[]⟩] 41)).setRow wr.heap.size XR) := Ext.setRow (Ext.alloc hEk (.cells #[.int .i64 0, .int .i64 0, .int .i64 0, .int .i64 0, .int .i64 0, .string ⟨#[]⟩] 41)) (Ext.size hEk) XR
        go_upto_region 15 with (first | (refine wpList_store_row rfl _ _ _ rfl wr.heap.size XR rfl rfl _ _ r12_0.out (by rw [Hxs.out]; kernel_rfl) (by rw [Hxs.out]; rfl) Hxo.out ?_) | (refine wpList_load_row rfl _ _ rfl wr.heap.size rfl _ XR (0, 0) _ r12.out Tryd.underlying41 rfl (by rw [Hxs.out]; kernel_rfl) ?_) | (go_at_call 23; refine (HM.out _).mono ?_; rintro e wm ⟨rfl, hbm⟩; have q12 := Hd.mk (Ext.blk hbm r12.out); have r13_0 := Hd.mk (heap_alloc_new wm (.cells #[.int .i64 0, .int .i64 0, .int .i64 0, .int .i64 0, .int .i64 0, .string ⟨#[]⟩] 41)); have r13 := Hd.mk (setRow_heap _ _ _ YR _ _ r13_0.out); have s12 := Hd.mk (Ext.blk (Ext.setRow (Ext.alloc (Ext.refl wm) (.cells #[.int .i64 0, .int .i64 0, .int .i64 0, .int .i64 0, .int .i64 0, .string ⟨#[]⟩] 41)) (Nat.le_refl _) YR) q12.out)) | (refine wpList_store_row rfl _ _ _ rfl wm.heap.size YR rfl rfl _ _ r13_0.out (by rw [Hys.out]; kernel_rfl) (by rw [Hys.out]; rfl) Hyo.out ?_) | (refine wpList_load_row rfl _ _ rfl wr.heap.size rfl _ XR (0, 0) _ s12.out Tryd.underlying41 rfl (by rw [Hxs.out]; kernel_rfl) ?_) | (go_at_call 19; refine (HMr.out _).mono ?_; rintro e wn ⟨rfl, hbn⟩; have t12 := Hd.mk (Ext.blk hbn s12.out); have t13 := Hd.mk (Ext.blk hbn r13.out); have r15_0 := Hd.mk (heap_alloc_new wn (.cells #[.int .i64 0, .int .i64 0, .int .i64 0, .int .i64 0, .int .i64 0, .string ⟨#[]⟩] 41)); have r15 := Hd.mk (setRow_heap _ _ _ YR _ _ r15_0.out); have u12 := Hd.mk (Ext.blk (Ext.setRow (Ext.alloc (Ext.refl wn) (.cells #[.int .i64 0, .int .i64 0, .int .i64 0, .int .i64 0, .int .i64 0, .string ⟨#[]⟩] 41)) (Nat.le_refl _) YR) t12.out); have u13 := Hd.mk (Ext.blk (Ext.setRow (Ext.alloc (Ext.refl wn) (.cells #[.int .i64 0, .int .i64 0, .int .i64 0, .int .i64 0, .int .i64 0, .string ⟨#[]⟩] 41)) (Nat.le_refl _) YR) t13.out)) | (refine wpList_store_row rfl _ _ _ rfl wn.heap.size YR rfl rfl _ _ r15_0.out (by rw [Hys.out]; kernel_rfl) (by rw [Hys.out]; rfl) Hyo.out ?_) | (refine wpList_load_row rfl _ _ rfl wr.heap.size rfl _ XR (0, 0) _ u12.out Tryd.underlying41 rfl (by rw [Hxs.out]; kernel_rfl) ?_) | (go_at_call 24; refine (HD.out _).mono ?_; rintro e wo ⟨rfl, hbo⟩; have v12 := Hd.mk (Ext.blk hbo u12.out); have v13 := Hd.mk (Ext.blk hbo u13.out); have v15 := Hd.mk (Ext.blk hbo r15.out); have r17_0 := Hd.mk (heap_alloc_new wo (.cells (Array.replicate 16 (Value.int .u8 0)) 28)); have r17 := Hd.mk (setRow_heap _ _ _ T _ _ r17_0.out); have x12 := Hd.mk (Ext.blk (Ext.setRow (Ext.alloc (Ext.refl wo) (.cells (Array.replicate 16 (Value.int .u8 0)) 28)) (Nat.le_refl _) T) v12.out); have x13 := Hd.mk (Ext.blk (Ext.setRow (Ext.alloc (Ext.refl wo) (.cells (Array.replicate 16 (Value.int .u8 0)) 28)) (Nat.le_refl _) T) v13.out); have x15 := Hd.mk (Ext.blk (Ext.setRow (Ext.alloc (Ext.refl wo) (.cells (Array.replicate 16 (Value.int .u8 0)) 28)) (Nat.le_refl _) T) v15.out)) | (refine wpList_store_row rfl _ _ _ rfl wo.heap.size T rfl rfl _ _ r17_0.out (by rw [Hts.out]; kernel_rfl) (by rw [Hts.out]; rfl) Hto.out ?_) | (refine wpList_load_row rfl _ _ rfl wr.heap.size rfl _ XR (0, 0) _ x12.out Tryd.underlying41 rfl (by rw [Hxs.out]; kernel_rfl) ?_) | (go_at_call 25; refine (HDr.out _).mono ?_; rintro e wp ⟨rfl, hbp⟩; have y12 := Hd.mk (Ext.blk hbp x12.out); have y13 := Hd.mk (Ext.blk hbp x13.out); have y15 := Hd.mk (Ext.blk hbp x15.out); have y17 := Hd.mk (Ext.blk hbp r17.out); have r19_0 := Hd.mk (heap_alloc_new wp (.cells (Array.replicate 16 (Value.int .u8 0)) 28)); have r19 := Hd.mk (setRow_heap _ _ _ T _ _ r19_0.out); have z12 := Hd.mk (Ext.blk (Ext.setRow (Ext.alloc (Ext.refl wp) (.cells (Array.replicate 16 (Value.int .u8 0)) 28)) (Nat.le_refl _) T) y12.out); have z13 := Hd.mk (Ext.blk (Ext.setRow (Ext.alloc (Ext.refl wp) (.cells (Array.replicate 16 (Value.int .u8 0)) 28)) (Nat.le_refl _) T) y13.out); have z15 := Hd.mk (Ext.blk (Ext.setRow (Ext.alloc (Ext.refl wp) (.cells (Array.replicate 16 (Value.int .u8 0)) 28)) (Nat.le_refl _) T) y15.out); have z17 := Hd.mk (Ext.blk (Ext.setRow (Ext.alloc (Ext.refl wp) (.cells (Array.replicate 16 (Value.int .u8 0)) 28)) (Nat.le_refl _) T) y17.out)) | (refine wpList_store_row rfl _ _ _ rfl wp.heap.size T rfl rfl _ _ r19_0.out (by rw [Hts.out]; kernel_rfl) (by rw [Hts.out]; rfl) Hto.out ?_))
        have em := Ext.trans hE12 hbm
        have em' : Ext W8 ((wm.alloc (.cells #[.int .i64 0, .int .i64 0, .int .i64 0, .int .i64 0, .int .i64 0, .string ⟨#[]⟩] 41)).setRow wm.heap.size YR) := Ext.setRow (Ext.alloc em (.cells #[.int .i64 0, .int .i64 0, .int .i64 0, .int .i64 0, .int .i64 0, .string ⟨#[]⟩] 41)) (Ext.size em) YR
        have en := Ext.trans em' hbn
        have en' : Ext W8 ((wn.alloc (.cells #[.int .i64 0, .int .i64 0, .int .i64 0, .int .i64 0, .int .i64 0, .string ⟨#[]⟩] 41)).setRow wn.heap.size YR) := Ext.setRow (Ext.alloc en (.cells #[.int .i64 0, .int .i64 0, .int .i64 0, .int .i64 0, .int .i64 0, .string ⟨#[]⟩] 41)) (Ext.size en) YR
        have eo := Ext.trans en' hbo
        have eo' : Ext W8 ((wo.alloc (.cells (Array.replicate 16 (Value.int .u8 0)) 28)).setRow wo.heap.size T) := Ext.setRow (Ext.alloc eo (.cells (Array.replicate 16 (Value.int .u8 0)) 28)) (Ext.size eo) T
        have ep := Ext.trans eo' hbp
        have ep' : Ext W8 ((wp.alloc (.cells (Array.replicate 16 (Value.int .u8 0)) 28)).setRow wp.heap.size T) := Ext.setRow (Ext.alloc ep (.cells (Array.replicate 16 (Value.int .u8 0)) 28)) (Ext.size ep) T
        refine wp_name fun W9 hW9 => ?_
        rw [show ((wp.alloc (.cells (Array.replicate 16 (Value.int .u8 0)) 28)).setRow wp.heap.size T) = W9 from hW9.out.symm] at z12 z13 z15 z17 r19 ep'
        clear hW9 r12_0 r12 q12 s12 r13_0 r13 t12 t13 r15_0 r15 u12 u13 v12 v13 v15 r17_0 r17 x12 x13 x15 y12 y13 y15 y17 r19_0 em em' en en' eo eo' ep hE12 hbm hbn hbo hbp
        refine wp_region_x (Ext W9) false (by kernel_rfl) (by kernel_rfl) (Ext.drew (Ext.refl _)) ?_
        (repeat (first
         | (refine wpX_skip rfl ?_; (try simp only [Act.put, List.setIfInBounds_toArray, List.set_cons_zero, List.set_cons_succ]))
         | (refine wpX_still rfl rfl (still_load_row _ _ rfl wr.heap.size rfl _ XR (0, 0) _ (fun w hw => Ext.blk hw z12.out) Tryd.underlying41 rfl (by rw [Hxs.out]; kernel_rfl)) ?_; (try simp only [Act.put, List.setIfInBounds_toArray, List.set_cons_zero, List.set_cons_succ]))
         | (refine wpX_still rfl rfl (still_load_row _ _ rfl wm.heap.size rfl _ YR (0, 0) _ (fun w hw => Ext.blk hw z13.out) Tryd.underlying41 rfl (by rw [Hys.out]; kernel_rfl)) ?_; (try simp only [Act.put, List.setIfInBounds_toArray, List.set_cons_zero, List.set_cons_succ]))
         | (refine wpX_still rfl rfl (still_load_row _ _ rfl wn.heap.size rfl _ YR (0, 0) _ (fun w hw => Ext.blk hw z15.out) Tryd.underlying41 rfl (by rw [Hys.out]; kernel_rfl)) ?_; (try simp only [Act.put, List.setIfInBounds_toArray, List.set_cons_zero, List.set_cons_succ]))
         | (refine wpX_still rfl rfl (still_load_row _ _ rfl wo.heap.size rfl _ T (0, 0) _ (fun w hw => Ext.blk hw z17.out) Tryd.underlying28 rfl (by rw [Hts.out]; kernel_rfl)) ?_; (try simp only [Act.put, List.setIfInBounds_toArray, List.set_cons_zero, List.set_cons_succ]))
         | (refine wpX_still rfl rfl (still_load_row _ _ rfl wp.heap.size rfl _ T (0, 0) _ (fun w hw => Ext.blk hw r19.out) Tryd.underlying28 rfl (by rw [Hts.out]; kernel_rfl)) ?_; (try simp only [Act.put, List.setIfInBounds_toArray, List.set_cons_zero, List.set_cons_succ]))
         | (refine wpX_busy rfl rfl ?_; go_simp; go_at_call 26; refine (HK.out _).mono ?_; rintro e wk ⟨rfl, hbk⟩; refine ⟨_, rfl, (by repeat (first | exact Ext.refl _ | assumption | apply Ext.alloc | apply Ext.drew | apply Ext.drewN | apply Ext.bytes | apply Ext.iter | refine Ext.setCell ?_ (by simp; omega) _ | refine Ext.trans ?_ (by assumption))), ?_⟩; (try simp only [Act.put, List.setIfInBounds_toArray, List.set_cons_zero, List.set_cons_succ]))
         | (refine wpX_busy rfl rfl ?_; go_simp; go_at_call 27; refine (HKr.out _).mono ?_; rintro e wl ⟨rfl, hbl⟩; refine ⟨_, rfl, (by repeat (first | exact Ext.refl _ | assumption | apply Ext.alloc | apply Ext.drew | apply Ext.drewN | apply Ext.bytes | apply Ext.iter | refine Ext.setCell ?_ (by simp; omega) _ | refine Ext.trans ?_ (by assumption))), ?_⟩; (try simp only [Act.put, List.setIfInBounds_toArray, List.set_cons_zero, List.set_cons_succ]))
         | (apply wpX_still; exact rfl; exact rfl; (intro w' hw'; go_simp; first | done | exact rfl); (try simp only [Act.put, List.setIfInBounds_toArray, List.set_cons_zero, List.set_cons_succ]))))
        refine wpX_nil fun Wf hWf => ?_
        have hEf : Ext W8 Wf := by rw [hWf.out]; exact Ext.trans ep' (by repeat (first | exact Ext.refl _ | assumption | apply Ext.alloc | apply Ext.drew | apply Ext.drewN | apply Ext.bytes | apply Ext.iter | refine Ext.setCell ?_ (by simp; omega) _ | refine Ext.trans ?_ (by assumption)))
        go_wp2
        refine ⟨⟨k + 1, by omega, by go_num, hEf⟩, ?_⟩
        simp [intOf]
        omega
      · obtain rfl : k = 4 := by omega
        go_wp2
        go_ret
        exact ⟨rfl, Ext.trans hE8 hEk⟩
end Go.Proofs.YtimecmleaeimkaaDoor
