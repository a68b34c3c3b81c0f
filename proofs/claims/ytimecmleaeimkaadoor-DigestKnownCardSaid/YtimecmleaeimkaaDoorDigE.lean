/- Package digest: New and Check; arrays of numbers compared. -/
import Derived.Test.YtimecmleaeimkaaDoorDigJ
import Derived.Stop.BytesEq
namespace Go.Proofs.YtimecmleaeimkaaDoor
open Go.RowKit
set_option linter.unusedVariables false
attribute [local go_sem] q32 q64

theorem all_range_ints : ∀ (xs ys : List Int), xs.length = ys.length → ((List.range xs.length).all fun i => xs.getD i 0 == ys.getD i 0) = (xs == ys)
  | [], [], _ => rfl
  | x :: xs, y :: ys, h => by
    have ih := all_range_ints xs ys (by simpa using h)
    rw [List.length_cons, List.range_succ_eq_map, List.all_cons, List.all_map]
    simp only [List.getD_cons_zero, Function.comp_def, List.getD_cons_succ, ih]
    simp [List.cons_beq_cons]
  | [], _ :: _, h => by simp at h
  | _ :: _, [], h => by simp at h
section
variable {P : Program} (w : World)
theorem run_equalIn_ints (d : Nat) (k : IntKind) (t e : TypeId) (n : Nat) (ht : P.underlying t = some (.array n e)) (he : P.underlying e = some (.int k)) (hsz : ∀ w, (sizeOf e).run P w = .ok 1 w)
    (xs ys : List Int) (hx : xs.length = n) (hy : ys.length = n) :
    (Op.equalIn (d + 2) t (.agg (xs.map (Value.int k)).toArray) (.agg (ys.map (Value.int k)).toArray)).run P w = .ok (xs == ys) w := by
  rw [← all_range_ints xs ys (hx.trans hy.symm), hx, List.range_eq_range', Op.equalIn]
  simp only [Sem.run_bind, run_underlying ht, Result.andThen_ok, hsz, Std.Legacy.Range.forIn_eq_forIn_range', Std.Legacy.Range.size, Nat.sub_zero, Nat.add_sub_cancel, Nat.div_one]
  have hl : ∀ i ∈ List.range' 0 n 1, i < n := fun i hi => by simpa using (List.mem_range'_1.1 hi).2
  generalize List.range' 0 n 1 = l at hl ⊢
  induction l with
  | nil => simp
  | cons i l ih =>
    have hi : i < n := hl i (by simp)
    have px : (part e (xs.map (Value.int k)).toArray (i * 1)).run P w = .ok (.int k (xs.getD i 0)) w := by
      simp [part, isAgg, run_underlying he, List.getD, List.getElem?_eq_getElem (show i < xs.length by omega)]
    have py : (part e (ys.map (Value.int k)).toArray (i * 1)).run P w = .ok (.int k (ys.getD i 0)) w := by
      simp [part, isAgg, run_underlying he, List.getD, List.getElem?_eq_getElem (show i < ys.length by omega)]
    have pe : (Op.equalIn (d + 1) e (.int k (xs.getD i 0)) (.int k (ys.getD i 0))).run P w = .ok (xs.getD i 0 == ys.getD i 0) w := by
      rw [run_equalIn_int w d e k k _ _ he]
    simp only [List.forIn_cons, Sem.run_bind, px, py, pe, Result.andThen_ok, List.all_cons]
    cases hb : (xs.getD i 0 == ys.getD i 0)
    · simp
    · simp only [Bool.not_true, Bool.false_eq_true, if_false, Sem.run_pure, Result.andThen_ok, Bool.true_and]
      exact ih fun j hj => hl j (by simp [hj])
theorem run_eql_ints (k : IntKind) (t e : TypeId) (n : Nat) (ht : P.underlying t = some (.array n e)) (he : P.underlying e = some (.int k)) (hsz : ∀ w, (sizeOf e).run P w = .ok 1 w)
    (xs ys : List Int) (hx : xs.length = n) (hy : ys.length = n) :
    (binOp .eql t (.agg (xs.map (Value.int k)).toArray) (.agg (ys.map (Value.int k)).toArray)).run P w = .ok (.bool (xs == ys)) w := by
  rw [run_eql_struct, run_equalIn_ints w 9998 k t e n ht he hsz xs ys hx hy]
  rfl
theorem run_neq_ints (k : IntKind) (t e : TypeId) (n : Nat) (ht : P.underlying t = some (.array n e)) (he : P.underlying e = some (.int k)) (hsz : ∀ w, (sizeOf e).run P w = .ok 1 w)
    (xs ys : List Int) (hx : xs.length = n) (hy : ys.length = n) :
    (binOp .neq t (.agg (xs.map (Value.int k)).toArray) (.agg (ys.map (Value.int k)).toArray)).run P w = .ok (.bool (!(xs == ys))) w := by
  rw [run_neq_struct, run_equalIn_ints w 9998 k t e n ht he hsz xs ys hx hy]
  rfl
end
theorem neq_q64 (a b c d a' b' c' d' : Int) (w : World) : (binOp .neq 39 (.agg #[.int .i64 a, .int .i64 b, .int .i64 c, .int .i64 d]) (.agg #[.int .i64 a', .int .i64 b', .int .i64 c', .int .i64 d'])).run Tryd.prog w = .ok (.bool (!([a, b, c, d] == [a', b', c', d']))) w :=
  run_neq_ints w .i64 39 3 4 Tryd.underlying39 Tryd.underlying3 (fun _ => by kernel_rfl) [a, b, c, d] [a', b', c', d'] rfl rfl

def begS : ByteArray := ⟨#[1, 35, 69, 103, 137, 171, 205, 239, 254, 220, 186, 152, 118, 84, 50, 16]⟩
theorem readBegin_c (w : World) : Calls Tryd.prog 51 #[.string begS] w (Ret w (q32 1732584193 4023233417 2562383102 271733878)) := by
  have h := read_c begS (by decide) w
  have e0 : rd begS 0 = 1732584193 := by decide +kernel
  have e1 : rd begS 4 = 4023233417 := by decide +kernel
  have e2 : rd begS 8 = 2562383102 := by decide +kernel
  have e3 : rd begS 12 = 271733878 := by decide +kernel
  rwa [e0, e1, e2, e3] at h
set_option maxHeartbeats 1000000 in
theorem newP_c (w : World) : Calls Tryd.prog 21 #[] w (Ret w (dgV begin4 0 ⟨#[]⟩)) := by
  have HR := Hd.mk readBegin_c
  have HK := Hd.mk (kept_c 1732584193 4023233417 2562383102 271733878 begin4_U.a begin4_U.b begin4_U.c begin4_U.d)
  unfold begS at HR
  go_enter Tryd.func21, Tryd.ntmps21
  go_wp2_with (first | (go_at_call 51; refine (HR.out _).mono ?_; rintro e w1 ⟨rfl, hb⟩) | (go_at_call 50; refine (HK.out _).mono ?_; rintro e w2 ⟨rfl, hb2⟩; have hrow := Hd.mk (Ext.blk hb2 (Ext.blk hb (heap_alloc_new _ _)))) | (refine wpList_store_row rfl _ _ _ rfl w.heap.size (dgL begin4 0 ⟨#[]⟩) rfl rfl _ _ hrow.out (by kernel_rfl) rfl (dgL_one _ _ _) ?_))
  refine bodyPost_ret (results_cell_row Tryd.results21 _ _ w.heap.size _ _ _ _ rfl (setRow_heap _ _ _ _ _ _ hrow.out) Tryd.underlying41 rfl (by kernel_rfl)) rfl ?_
  exact ⟨rfl, Ext.setRow (by repeat (first | exact Ext.refl _ | assumption | apply Ext.alloc | apply Ext.drew | apply Ext.drewN | apply Ext.bytes | apply Ext.iter | refine Ext.setCell ?_ (by simp; omega) _ | refine Ext.trans ?_ (by assumption))) (Nat.le_refl _) _⟩

def modQ (x : Q4) : Q4 := ⟨x.a % 4294967296, x.b % 4294967296, x.c % 4294967296, x.d % 4294967296⟩
theorem modQ_U (x : Q4) : (modQ x).U := ⟨U_mod _, U_mod _, U_mod _, U_mod _⟩
theorem modQ_id {x : Q4} (h : x.U) : modQ x = x := by
  obtain ⟨a, b, c, d⟩ := h
  unfold U at a b c d
  cases x
  simp only [modQ] at *
  rw [Int.emod_eq_of_lt a.1 a.2, Int.emod_eq_of_lt b.1 b.2, Int.emod_eq_of_lt c.1 c.2, Int.emod_eq_of_lt d.1 d.2]
theorem modQ_ne {x : Q4} (h : ¬ x.U) : (!([(modQ x).a, (modQ x).b, (modQ x).c, (modQ x).d] == [x.a, x.b, x.c, x.d])) = true := by
  rw [Bool.not_eq_true']
  rw [beq_eq_false_iff_ne]
  intro he
  simp only [List.cons.injEq, and_true] at he
  obtain ⟨a, b, c, d⟩ := he
  exact h ⟨by rw [← a]; exact (modQ_U x).a, by rw [← b]; exact (modQ_U x).b, by rw [← c]; exact (modQ_U x).c, by rw [← d]; exact (modQ_U x).d⟩
theorem modQ_eq {x : Q4} (h : x.U) : (!([(modQ x).a, (modQ x).b, (modQ x).c, (modQ x).d] == [x.a, x.b, x.c, x.d])) = false := by
  rw [modQ_id h]; simp
set_option maxHeartbeats 4000000 in
set_option maxRecDepth 100000 in
theorem checkP_c (x : Q4) (l : Int) (r : ByteArray) (w : World) : Calls Tryd.prog 26 #[dgV x l r] w (Ret w (.int .i64 (checkS x l r))) := by
  have hu := used_c x.a x.b x.c x.d
  change ∀ w, Calls _ _ _ w (Ret w (q32 (modQ x).a (modQ x).b (modQ x).c (modQ x).d)) at hu
  have hk := kept_c (modQ x).a (modQ x).b (modQ x).c (modQ x).d (modQ_U x).a (modQ_U x).b (modQ_U x).c (modQ_U x).d
  have hq := neq_q64 (modQ x).a (modQ x).b (modQ x).c (modQ x).d x.a x.b x.c x.d
  have Hyes := Hd.mk (@modQ_eq x)
  have Hno := Hd.mk (@modQ_ne x)
  generalize modQ x = y at *
  generalize hT : (!([y.a, y.b, y.c, y.d] == [x.a, x.b, x.c, x.d])) = T at *
  clear hT
  have HU := Hd.mk hu
  have HK := Hd.mk hk
  clear hu hk
  unfold q32 q64 at HU HK
  have hC : checkS x l r = if rightB x l r then 0 else 80 := rfl
  have HC := Hd.mk hC
  clear hC
  unfold dgV dgL
  by_cases hx : x.U
  · have hT := Hyes.out hx
    subst hT
    clear Hyes Hno
    have Hx := Hd.mk hx
    clear hx
    by_cases h0 : l < 0
    · have HN := Hd.mk (rightB_no (x := x) (l := l) (r := r) (fun h => by omega))
      go_enter Tryd.func26, Tryd.ntmps26
      go_upto_region 1 with fail
      refine wp_name fun W hW => ?_
      have hE : Ext w W := by rw [hW.out]; exact (by repeat (first | exact Ext.refl _ | assumption | apply Ext.alloc | apply Ext.drew | apply Ext.drewN | apply Ext.bytes | apply Ext.iter | refine Ext.setCell ?_ (by simp; omega) _ | refine Ext.trans ?_ (by assumption)))
      have hrow : W.heap[w.heap.size]? = some (.cells (dgL x l r) 41 (0, 0)) := by rw [hW.out]; exact heap_alloc_new _ _
      have Hrow := Hd.mk hrow
      clear hrow hW
      refine wp_region_x (DgC (fun _ => False) W w.heap.size x l r) false (by kernel_rfl) (by kernel_rfl) (DgC.of Hrow.out (fun h => h) _ (Exts.drew (Exts.refl _))) ?_
      (repeat (first
         | (refine wpX_skip rfl ?_; (try simp only [Act.put, List.setIfInBounds_toArray, List.set_cons_zero, List.set_cons_succ]))
         | (apply wpX_still; exact rfl; exact rfl; (rintro w' ⟨hw', f0, f1, f2, f3, f4, f5⟩; go_simp; first | done | exact rfl); (try simp only [Act.put, List.setIfInBounds_toArray, List.set_cons_zero, List.set_cons_succ]))))
      (refine wpX_busy rfl rfl ?_; go_simp; go_at_call 52; refine (HU.out _).mono ?_; rintro e wa ⟨rfl, hba⟩; refine ⟨_, rfl, DgC.of Hrow.out (fun h => h) _ (Ext.exts (by repeat (first | exact Ext.refl _ | assumption | apply Ext.alloc | apply Ext.drew | apply Ext.drewN | apply Ext.bytes | apply Ext.iter | refine Ext.setCell ?_ (by simp; omega) _ | refine Ext.trans ?_ (by assumption)))), ?_⟩; (try simp only [Act.put, List.setIfInBounds_toArray, List.set_cons_zero, List.set_cons_succ]))
      (repeat (first
         | (refine wpX_skip rfl ?_; (try simp only [Act.put, List.setIfInBounds_toArray, List.set_cons_zero, List.set_cons_succ]))
         | (apply wpX_still; exact rfl; exact rfl; (rintro w' ⟨hw', f0, f1, f2, f3, f4, f5⟩; go_simp; first | done | exact rfl); (try simp only [Act.put, List.setIfInBounds_toArray, List.set_cons_zero, List.set_cons_succ]))))
      (refine wpX_busy rfl rfl ?_; go_simp; go_at_call 50; refine (HK.out _).mono ?_; rintro e wb ⟨rfl, hbb⟩; refine ⟨_, rfl, DgC.of Hrow.out (fun h => h) _ (Ext.exts (by repeat (first | exact Ext.refl _ | assumption | apply Ext.alloc | apply Ext.drew | apply Ext.drewN | apply Ext.bytes | apply Ext.iter | refine Ext.setCell ?_ (by simp; omega) _ | refine Ext.trans ?_ (by assumption)))), ?_⟩; (try simp only [Act.put, List.setIfInBounds_toArray, List.set_cons_zero, List.set_cons_succ]))
      (repeat (first
         | (refine wpX_skip rfl ?_; (try simp only [Act.put, List.setIfInBounds_toArray, List.set_cons_zero, List.set_cons_succ]))
         | (apply wpX_still; exact rfl; exact rfl; (rintro w' ⟨hw', f0, f1, f2, f3, f4, f5⟩; go_simp; first | done | exact rfl); (try simp only [Act.put, List.setIfInBounds_toArray, List.set_cons_zero, List.set_cons_succ]))))
      refine wpX_end ?_
      go_wp2
      go_ret
      exact ⟨by rw [HC.out, HN.out]; rfl, (by repeat (first | exact Ext.refl _ | assumption | apply Ext.alloc | apply Ext.drew | apply Ext.drewN | apply Ext.bytes | apply Ext.iter | refine Ext.setCell ?_ (by simp; omega) _ | refine Ext.trans ?_ (by assumption)))⟩
    by_cases h1 : 65536 < l
    · have HN := Hd.mk (rightB_no (x := x) (l := l) (r := r) (fun h => by omega))
      go_enter Tryd.func26, Tryd.ntmps26
      go_upto_region 1 with fail
      refine wp_name fun W hW => ?_
      have hE : Ext w W := by rw [hW.out]; exact (by repeat (first | exact Ext.refl _ | assumption | apply Ext.alloc | apply Ext.drew | apply Ext.drewN | apply Ext.bytes | apply Ext.iter | refine Ext.setCell ?_ (by simp; omega) _ | refine Ext.trans ?_ (by assumption)))
      have hrow : W.heap[w.heap.size]? = some (.cells (dgL x l r) 41 (0, 0)) := by rw [hW.out]; exact heap_alloc_new _ _
      have Hrow := Hd.mk hrow
      clear hrow hW
      refine wp_region_x (DgC (fun _ => False) W w.heap.size x l r) false (by kernel_rfl) (by kernel_rfl) (DgC.of Hrow.out (fun h => h) _ (Exts.drew (Exts.refl _))) ?_
      (repeat (first
         | (refine wpX_skip rfl ?_; (try simp only [Act.put, List.setIfInBounds_toArray, List.set_cons_zero, List.set_cons_succ]))
         | (apply wpX_still; exact rfl; exact rfl; (rintro w' ⟨hw', f0, f1, f2, f3, f4, f5⟩; go_simp; first | done | exact rfl); (try simp only [Act.put, List.setIfInBounds_toArray, List.set_cons_zero, List.set_cons_succ]))))
      (refine wpX_busy rfl rfl ?_; go_simp; go_at_call 52; refine (HU.out _).mono ?_; rintro e wa ⟨rfl, hba⟩; refine ⟨_, rfl, DgC.of Hrow.out (fun h => h) _ (Ext.exts (by repeat (first | exact Ext.refl _ | assumption | apply Ext.alloc | apply Ext.drew | apply Ext.drewN | apply Ext.bytes | apply Ext.iter | refine Ext.setCell ?_ (by simp; omega) _ | refine Ext.trans ?_ (by assumption)))), ?_⟩; (try simp only [Act.put, List.setIfInBounds_toArray, List.set_cons_zero, List.set_cons_succ]))
      (repeat (first
         | (refine wpX_skip rfl ?_; (try simp only [Act.put, List.setIfInBounds_toArray, List.set_cons_zero, List.set_cons_succ]))
         | (apply wpX_still; exact rfl; exact rfl; (rintro w' ⟨hw', f0, f1, f2, f3, f4, f5⟩; go_simp; first | done | exact rfl); (try simp only [Act.put, List.setIfInBounds_toArray, List.set_cons_zero, List.set_cons_succ]))))
      (refine wpX_busy rfl rfl ?_; go_simp; go_at_call 50; refine (HK.out _).mono ?_; rintro e wb ⟨rfl, hbb⟩; refine ⟨_, rfl, DgC.of Hrow.out (fun h => h) _ (Ext.exts (by repeat (first | exact Ext.refl _ | assumption | apply Ext.alloc | apply Ext.drew | apply Ext.drewN | apply Ext.bytes | apply Ext.iter | refine Ext.setCell ?_ (by simp; omega) _ | refine Ext.trans ?_ (by assumption)))), ?_⟩; (try simp only [Act.put, List.setIfInBounds_toArray, List.set_cons_zero, List.set_cons_succ]))
      (repeat (first
         | (refine wpX_skip rfl ?_; (try simp only [Act.put, List.setIfInBounds_toArray, List.set_cons_zero, List.set_cons_succ]))
         | (apply wpX_still; exact rfl; exact rfl; (rintro w' ⟨hw', f0, f1, f2, f3, f4, f5⟩; go_simp; first | done | exact rfl); (try simp only [Act.put, List.setIfInBounds_toArray, List.set_cons_zero, List.set_cons_succ]))))
      refine wpX_end ?_
      go_wp2
      go_ret
      exact ⟨by rw [HC.out, HN.out]; rfl, (by repeat (first | exact Ext.refl _ | assumption | apply Ext.alloc | apply Ext.drew | apply Ext.drewN | apply Ext.bytes | apply Ext.iter | refine Ext.setCell ?_ (by simp; omega) _ | refine Ext.trans ?_ (by assumption)))⟩
    obtain ⟨M, eM⟩ : ∃ M, l % 64 = M := ⟨_, rfl⟩
    have q1 : l.tmod 64 = M := by rw [Int.tmod_eq_emod_of_nonneg (by omega)]; exact eM
    cases ht : ((r.size : Int) != M)
    · have HN := Hd.mk ((rightB_iff x l r).2 ⟨Hx.out, by omega, by omega, by rw [eM]; simpa using ht⟩)
      clear eM
      go_enter Tryd.func26, Tryd.ntmps26
      go_upto_region 1 with fail
      refine wp_name fun W hW => ?_
      have hE : Ext w W := by rw [hW.out]; exact (by repeat (first | exact Ext.refl _ | assumption | apply Ext.alloc | apply Ext.drew | apply Ext.drewN | apply Ext.bytes | apply Ext.iter | refine Ext.setCell ?_ (by simp; omega) _ | refine Ext.trans ?_ (by assumption)))
      have hrow : W.heap[w.heap.size]? = some (.cells (dgL x l r) 41 (0, 0)) := by rw [hW.out]; exact heap_alloc_new _ _
      have Hrow := Hd.mk hrow
      clear hrow hW
      refine wp_region_x (DgC (fun _ => False) W w.heap.size x l r) false (by kernel_rfl) (by kernel_rfl) (DgC.of Hrow.out (fun h => h) _ (Exts.drew (Exts.refl _))) ?_
      (repeat (first
         | (refine wpX_skip rfl ?_; (try simp only [Act.put, List.setIfInBounds_toArray, List.set_cons_zero, List.set_cons_succ]))
         | (apply wpX_still; exact rfl; exact rfl; (rintro w' ⟨hw', f0, f1, f2, f3, f4, f5⟩; go_simp; first | done | exact rfl); (try simp only [Act.put, List.setIfInBounds_toArray, List.set_cons_zero, List.set_cons_succ]))))
      (refine wpX_busy rfl rfl ?_; go_simp; go_at_call 52; refine (HU.out _).mono ?_; rintro e wa ⟨rfl, hba⟩; refine ⟨_, rfl, DgC.of Hrow.out (fun h => h) _ (Ext.exts (by repeat (first | exact Ext.refl _ | assumption | apply Ext.alloc | apply Ext.drew | apply Ext.drewN | apply Ext.bytes | apply Ext.iter | refine Ext.setCell ?_ (by simp; omega) _ | refine Ext.trans ?_ (by assumption)))), ?_⟩; (try simp only [Act.put, List.setIfInBounds_toArray, List.set_cons_zero, List.set_cons_succ]))
      (repeat (first
         | (refine wpX_skip rfl ?_; (try simp only [Act.put, List.setIfInBounds_toArray, List.set_cons_zero, List.set_cons_succ]))
         | (apply wpX_still; exact rfl; exact rfl; (rintro w' ⟨hw', f0, f1, f2, f3, f4, f5⟩; go_simp; first | done | exact rfl); (try simp only [Act.put, List.setIfInBounds_toArray, List.set_cons_zero, List.set_cons_succ]))))
      (refine wpX_busy rfl rfl ?_; go_simp; go_at_call 50; refine (HK.out _).mono ?_; rintro e wb ⟨rfl, hbb⟩; refine ⟨_, rfl, DgC.of Hrow.out (fun h => h) _ (Ext.exts (by repeat (first | exact Ext.refl _ | assumption | apply Ext.alloc | apply Ext.drew | apply Ext.drewN | apply Ext.bytes | apply Ext.iter | refine Ext.setCell ?_ (by simp; omega) _ | refine Ext.trans ?_ (by assumption)))), ?_⟩; (try simp only [Act.put, List.setIfInBounds_toArray, List.set_cons_zero, List.set_cons_succ]))
      (repeat (first
         | (refine wpX_skip rfl ?_; (try simp only [Act.put, List.setIfInBounds_toArray, List.set_cons_zero, List.set_cons_succ]))
         | (apply wpX_still; exact rfl; exact rfl; (rintro w' ⟨hw', f0, f1, f2, f3, f4, f5⟩; go_simp; first | done | exact rfl); (try simp only [Act.put, List.setIfInBounds_toArray, List.set_cons_zero, List.set_cons_succ]))))
      refine wpX_end ?_
      go_wp2
      go_ret
      exact ⟨by rw [HC.out, HN.out]; rfl, (by repeat (first | exact Ext.refl _ | assumption | apply Ext.alloc | apply Ext.drew | apply Ext.drewN | apply Ext.bytes | apply Ext.iter | refine Ext.setCell ?_ (by simp; omega) _ | refine Ext.trans ?_ (by assumption)))⟩
    · have HN := Hd.mk (rightB_no (x := x) (l := l) (r := r) (fun h => by rw [bne_iff_ne] at ht; exact ht (by rw [h.2.2.2, eM])))
      clear eM
      go_enter Tryd.func26, Tryd.ntmps26
      go_upto_region 1 with fail
      refine wp_name fun W hW => ?_
      have hE : Ext w W := by rw [hW.out]; exact (by repeat (first | exact Ext.refl _ | assumption | apply Ext.alloc | apply Ext.drew | apply Ext.drewN | apply Ext.bytes | apply Ext.iter | refine Ext.setCell ?_ (by simp; omega) _ | refine Ext.trans ?_ (by assumption)))
      have hrow : W.heap[w.heap.size]? = some (.cells (dgL x l r) 41 (0, 0)) := by rw [hW.out]; exact heap_alloc_new _ _
      have Hrow := Hd.mk hrow
      clear hrow hW
      refine wp_region_x (DgC (fun _ => False) W w.heap.size x l r) false (by kernel_rfl) (by kernel_rfl) (DgC.of Hrow.out (fun h => h) _ (Exts.drew (Exts.refl _))) ?_
      (repeat (first
         | (refine wpX_skip rfl ?_; (try simp only [Act.put, List.setIfInBounds_toArray, List.set_cons_zero, List.set_cons_succ]))
         | (apply wpX_still; exact rfl; exact rfl; (rintro w' ⟨hw', f0, f1, f2, f3, f4, f5⟩; go_simp; first | done | exact rfl); (try simp only [Act.put, List.setIfInBounds_toArray, List.set_cons_zero, List.set_cons_succ]))))
      (refine wpX_busy rfl rfl ?_; go_simp; go_at_call 52; refine (HU.out _).mono ?_; rintro e wa ⟨rfl, hba⟩; refine ⟨_, rfl, DgC.of Hrow.out (fun h => h) _ (Ext.exts (by repeat (first | exact Ext.refl _ | assumption | apply Ext.alloc | apply Ext.drew | apply Ext.drewN | apply Ext.bytes | apply Ext.iter | refine Ext.setCell ?_ (by simp; omega) _ | refine Ext.trans ?_ (by assumption)))), ?_⟩; (try simp only [Act.put, List.setIfInBounds_toArray, List.set_cons_zero, List.set_cons_succ]))
      (repeat (first
         | (refine wpX_skip rfl ?_; (try simp only [Act.put, List.setIfInBounds_toArray, List.set_cons_zero, List.set_cons_succ]))
         | (apply wpX_still; exact rfl; exact rfl; (rintro w' ⟨hw', f0, f1, f2, f3, f4, f5⟩; go_simp; first | done | exact rfl); (try simp only [Act.put, List.setIfInBounds_toArray, List.set_cons_zero, List.set_cons_succ]))))
      (refine wpX_busy rfl rfl ?_; go_simp; go_at_call 50; refine (HK.out _).mono ?_; rintro e wb ⟨rfl, hbb⟩; refine ⟨_, rfl, DgC.of Hrow.out (fun h => h) _ (Ext.exts (by repeat (first | exact Ext.refl _ | assumption | apply Ext.alloc | apply Ext.drew | apply Ext.drewN | apply Ext.bytes | apply Ext.iter | refine Ext.setCell ?_ (by simp; omega) _ | refine Ext.trans ?_ (by assumption)))), ?_⟩; (try simp only [Act.put, List.setIfInBounds_toArray, List.set_cons_zero, List.set_cons_succ]))
      (repeat (first
         | (refine wpX_skip rfl ?_; (try simp only [Act.put, List.setIfInBounds_toArray, List.set_cons_zero, List.set_cons_succ]))
         | (apply wpX_still; exact rfl; exact rfl; (rintro w' ⟨hw', f0, f1, f2, f3, f4, f5⟩; go_simp; first | done | exact rfl); (try simp only [Act.put, List.setIfInBounds_toArray, List.set_cons_zero, List.set_cons_succ]))))
      refine wpX_end ?_
      go_wp2
      go_ret
      exact ⟨by rw [HC.out, HN.out]; rfl, (by repeat (first | exact Ext.refl _ | assumption | apply Ext.alloc | apply Ext.drew | apply Ext.drewN | apply Ext.bytes | apply Ext.iter | refine Ext.setCell ?_ (by simp; omega) _ | refine Ext.trans ?_ (by assumption)))⟩
  · have hT := Hno.out hx
    subst hT
    have HN := Hd.mk (rightB_no (x := x) (l := l) (r := r) (fun h => hx h.1))
    clear Hyes Hno
    go_enter Tryd.func26, Tryd.ntmps26
    go_upto_region 1 with fail
    refine wp_name fun W hW => ?_
    have hE : Ext w W := by rw [hW.out]; exact (by repeat (first | exact Ext.refl _ | assumption | apply Ext.alloc | apply Ext.drew | apply Ext.drewN | apply Ext.bytes | apply Ext.iter | refine Ext.setCell ?_ (by simp; omega) _ | refine Ext.trans ?_ (by assumption)))
    have hrow : W.heap[w.heap.size]? = some (.cells (dgL x l r) 41 (0, 0)) := by rw [hW.out]; exact heap_alloc_new _ _
    have Hrow := Hd.mk hrow
    clear hrow hW
    refine wp_region_x (DgC (fun _ => False) W w.heap.size x l r) false (by kernel_rfl) (by kernel_rfl) (DgC.of Hrow.out (fun h => h) _ (Exts.drew (Exts.refl _))) ?_
    (repeat (first
       | (refine wpX_skip rfl ?_; (try simp only [Act.put, List.setIfInBounds_toArray, List.set_cons_zero, List.set_cons_succ]))
       | (apply wpX_still; exact rfl; exact rfl; (rintro w' ⟨hw', f0, f1, f2, f3, f4, f5⟩; go_simp; first | done | exact rfl); (try simp only [Act.put, List.setIfInBounds_toArray, List.set_cons_zero, List.set_cons_succ]))))
    (refine wpX_busy rfl rfl ?_; go_simp; go_at_call 52; refine (HU.out _).mono ?_; rintro e wa ⟨rfl, hba⟩; refine ⟨_, rfl, DgC.of Hrow.out (fun h => h) _ (Ext.exts (by repeat (first | exact Ext.refl _ | assumption | apply Ext.alloc | apply Ext.drew | apply Ext.drewN | apply Ext.bytes | apply Ext.iter | refine Ext.setCell ?_ (by simp; omega) _ | refine Ext.trans ?_ (by assumption)))), ?_⟩; (try simp only [Act.put, List.setIfInBounds_toArray, List.set_cons_zero, List.set_cons_succ]))
    (repeat (first
       | (refine wpX_skip rfl ?_; (try simp only [Act.put, List.setIfInBounds_toArray, List.set_cons_zero, List.set_cons_succ]))
       | (apply wpX_still; exact rfl; exact rfl; (rintro w' ⟨hw', f0, f1, f2, f3, f4, f5⟩; go_simp; first | done | exact rfl); (try simp only [Act.put, List.setIfInBounds_toArray, List.set_cons_zero, List.set_cons_succ]))))
    (refine wpX_busy rfl rfl ?_; go_simp; go_at_call 50; refine (HK.out _).mono ?_; rintro e wb ⟨rfl, hbb⟩; refine ⟨_, rfl, DgC.of Hrow.out (fun h => h) _ (Ext.exts (by repeat (first | exact Ext.refl _ | assumption | apply Ext.alloc | apply Ext.drew | apply Ext.drewN | apply Ext.bytes | apply Ext.iter | refine Ext.setCell ?_ (by simp; omega) _ | refine Ext.trans ?_ (by assumption)))), ?_⟩; (try simp only [Act.put, List.setIfInBounds_toArray, List.set_cons_zero, List.set_cons_succ]))
    (repeat (first
       | (refine wpX_skip rfl ?_; (try simp only [Act.put, List.setIfInBounds_toArray, List.set_cons_zero, List.set_cons_succ]))
       | (apply wpX_still; exact rfl; exact rfl; (rintro w' ⟨hw', f0, f1, f2, f3, f4, f5⟩; go_simp; first | done | exact rfl); (try simp only [Act.put, List.setIfInBounds_toArray, List.set_cons_zero, List.set_cons_succ]))))
    refine wpX_end ?_
    go_wp2
    go_ret
    exact ⟨by rw [HC.out, HN.out]; rfl, (by repeat (first | exact Ext.refl _ | assumption | apply Ext.alloc | apply Ext.drew | apply Ext.drewN | apply Ext.bytes | apply Ext.iter | refine Ext.setCell ?_ (by simp; omega) _ | refine Ext.trans ?_ (by assumption)))⟩
end Go.Proofs.YtimecmleaeimkaaDoor
