/- strings.Builder's WriteByte, and Hex. -/
import Derived.Test.YtimecmleaeimkaaDoorDigH
import Derived.Test.YtimecmleaeimkaaDoorShelf
import Derived.Shelf.Strings.Builder1
namespace Go.Proofs.YtimecmleaeimkaaDoor
open Go.RowKit
set_option linter.unusedVariables false
theorem sizeBuilder : (Tryd.prog.info? 76).map (·.size) = some 2 := by kernel_rfl
theorem liesBuilder : liesAt Tryd.prog Tryd.prog.depth 76 (2 / Tryd.prog.cellsOf 76) 0 76 1 = true := by kernel_rfl
theorem infoByte : (Tryd.prog.info? 5).map (fun i => (i.zero, i.size, i.bytes)) = some (some (.int .u8 0), 1, 1) := by kernel_rfl
set_option maxHeartbeats 1000000 in
set_option maxRecDepth 100000 in
theorem copyCheck_used (b : Nat) (w : World) (h0 : w.cell? ⟨b, 0, none⟩ = some (.pointer (some ⟨b, 0, none⟩))) :
    Calls Tryd.prog 86 #[.pointer (some ⟨b, 0, none⟩)] w fun e w' => e = .returned (.tuple #[]) ∧ w' = w := by
  obtain ⟨j, hj, _⟩ := Option.map_eq_some_iff.1 sizeBuilder
  go_enter Tryd.func86, Tryd.ntmps86
  go_wp2
  rw [Lib.run_neq_ptr_same w _ Tryd.underlying74 hj]
  go_wp2
  go_end0
  exact ⟨rfl, rfl⟩
set_option maxHeartbeats 1000000 in
set_option maxRecDepth 100000 in
theorem copyCheck_fresh (b : Nat) (w : World) (h0 : w.cell? ⟨b, 0, none⟩ = some (.pointer none)) (hsh : w.shape? b = some (76, 2)) (hfz : w.frozen? ⟨b, 0, none⟩ = false) :
    Calls Tryd.prog 86 #[.pointer (some ⟨b, 0, none⟩)] w fun e w' => e = .returned (.tuple #[]) ∧ w' = w.setCell ⟨b, 0, none⟩ (.pointer (some ⟨b, 0, none⟩)) := by
  obtain ⟨j, hj, hjs⟩ := Option.map_eq_some_iff.1 sizeBuilder
  go_enter Tryd.func86, Tryd.ntmps86
  go_wp2
  rw [Lib.run_to_unsafe w ⟨b, 0, none⟩ Tryd.underlying74 Tryd.underlying154 hj (by rw [hjs]; decide) hsh (Nat.zero_lt_succ 1)]
  simp only [Result.andThen]
  rw [Oper.upon_value]
  go_wp2
  rw [run_callFunc_extern Tryd.func110 (by kernel_rfl) (by kernel_rfl) (by kernel_rfl) (e := Extern.AbiNoEscape.same) (by kernel_rfl)]
  rw [Lib.run_noEscape]
  simp only [Result.andThen]
  rw [Oper.upon_value]
  go_wp2
  rw [Lib.run_from_unsafe w ⟨b, 0, none⟩ Tryd.underlying154 Tryd.underlying74 hj hsh liesBuilder]
  simp only [Result.andThen]
  rw [Oper.upon_value]
  go_wp2
  go_end0
  exact ⟨rfl, rfl⟩
theorem copyCheck_c (B b : Nat) (bs : List Value) (w : World) (h : Lib.IsBuilder 76 5 B b bs w) :
    Calls Tryd.prog 86 #[.pointer (some ⟨b, 0, none⟩)] w fun e w' => e = .returned (.tuple #[]) ∧ (Lib.BuilderAt 76 5 B b (.pointer (some ⟨b, 0, none⟩)) bs w' ∧ Below B w w') := by
  rcases h with h | h
  · refine (copyCheck_fresh b w h.cell0 h.shape h.frozen0).mono ?_
    rintro e w' ⟨rfl, rfl⟩
    exact ⟨rfl, h.used _, (Below.refl B w).setCell (p := ⟨b, 0, none⟩) h.1 _⟩
  · refine (copyCheck_used b w h.cell0).mono ?_
    rintro e w' ⟨rfl, rfl⟩
    exact ⟨rfl, h, Below.refl B _⟩
set_option maxHeartbeats 2000000 in
set_option maxRecDepth 100000 in
theorem writeByte_c (B b : Nat) (bs : List Value) (c : Int) (w : World) (h : Lib.IsBuilder 76 5 B b bs w) (hlen : bs.length + 1 ≤ 140737488355328) (hBw : B ≤ w.heap.size) :
    Calls Tryd.prog 47 #[.pointer (some ⟨b, 0, none⟩), .int .u8 c] w fun e w' => e = .returned .nilIface ∧ (Lib.BuilderAt 76 5 B b (.pointer (some ⟨b, 0, none⟩)) (bs ++ [.int .u8 c]) w' ∧ Below B w w') := by
  obtain ⟨i0, hi, hz0, hz1, hz2⟩ := info_parts infoByte
  go_enter Tryd.func47, Tryd.ntmps47
  go_wp2_with (go_at_call 86; refine (copyCheck_c B b bs _ h).mono ?_)
  rintro e w1 ⟨rfl, h1, hb1⟩
  obtain ⟨hB, v, hbk, hown, hne⟩ := h1
  have c0 : w1.cell? ⟨b, 0, none⟩ = some (.pointer (some ⟨b, 0, none⟩)) := by rw [Lib.cell_of_heap hbk]; rfl
  have c1 : w1.cell? ⟨b, 1, none⟩ = some v := by rw [Lib.cell_of_heap hbk]; rfl
  go_wp2_with (at_builtin; refine wpList_append_own _ rfl _ _ 34 rfl B 5 i0 (.int .u8 0) 1 1 Tryd.underlying34 hi hz0 hz1 hz2 rfl (by decide) _ _ _ rfl (hown.alloc _) ⟨w1.heap.size, 0, none⟩ 1 1 [.int .u8 c] rfl rfl ?c1 ?c2 ?c3 ?c4 ?c5 ?_)
  case c1 =>
    intro j u hj
    match j, hj with
    | 0, hj => simp at hj; subst hj; simp [Addr.add]
  case c2 => intro u hu; simp at hu; subst hu; rfl
  case c3 => unfold maxLen; omega
  case c4 => omega
  case c5 => have := hb1.size; simp; omega
  intro v' w2 hown' hgrow _
  have hlt : b < w1.heap.size := by
    rcases Nat.lt_or_ge b w1.heap.size with h' | h'
    · exact h'
    · simp [Array.getElem?_eq_none h'] at hbk
  have hb2 : w2.heap[b]? = some (.cells #[.pointer (some ⟨b, 0, none⟩), v] 76 (0, 0)) := by
    rw [hgrow.block b (by simp; omega) (fun e => hne e.symm), Lib.alloc_old w1 _ b hlt]
    exact hbk
  have d0 : w2.cell? ⟨b, 0, none⟩ = some (.pointer (some ⟨b, 0, none⟩)) := by rw [Lib.cell_of_heap hb2]; rfl
  have d1 : w2.cell? ⟨b, 1, none⟩ = some v := by rw [Lib.cell_of_heap hb2]; rfl
  have f1 : w2.frozen? ⟨b, 1, none⟩ = false := Lib.frozen_of_heap hb2 1
  obtain ⟨g, cap, rfl⟩ : ∃ g cap, v' = .slice (some ⟨g, 0, none⟩) (bs.length + 1) cap := by
    rcases hown'.2 with ⟨_, h0⟩ | ⟨g, cap, cur, hv, _⟩
    · omega
    · exact ⟨g, cap, hv⟩
  go_wp2
  go_ret
  refine ⟨rfl, ?_, ?_⟩
  · exact Lib.BuilderAt.put (T := 76) (e := 5) hB hb2 (bs' := bs ++ [.int .u8 c]) (by simpa using hown') (by decide)
  · exact ((hb1.alloc (by have := hb1.size; omega) _).grown hgrow (by have := hb1.size; simp; omega) (fun k hk => (hown.lt k hk).1)).setCell (p := ⟨b, 1, none⟩) hB _

theorem run_index_row (A : Array Value) (k : Nat) (hk : k < 16) (v : Int) (hA : A[k]? = some (.int .u8 v)) (w : World) : (Instr.index 28 (.agg A) (.int .i64 k)).run Tryd.prog w = .ok (.int .u8 v) w := by
  have h1 : (0 : Int) ≤ k ∧ (k : Int) < 16 := by omega
  simp [Instr.index, run_underlying Tryd.underlying28, asIntOf, h1.1, go_sem, hA]
  omega
theorem run_index_hex (q : Nat) (hq : q < 16) (w : World) : (Instr.index 9 (.string ⟨#[48, 49, 50, 51, 52, 53, 54, 55, 56, 57, 97, 98, 99, 100, 101, 102]⟩) (.int .u8 q)).run Tryd.prog w = .ok (.int .u8 (byteAt hexC q)) w := by
  have h2 : q < hexC.size := hq
  have h3 : hexC[q]? = some (hexC[q]'h2) := getElem?_pos hexC q h2
  rw [← byteAt_eq hexC q h2]
  change (Instr.index 9 (.string hexC) (.int .u8 q)).run Tryd.prog w = _
  have h0 : (0 : Int) ≤ q := by omega
  simp [Instr.index, run_underlying Tryd.underlying9, asIntOf, go_sem, h3]
theorem and15 : ∀ b : Fin 256, bits .and .u8 (b.val : Int) 15 = (b.val : Int) % 16 := by decide +kernel
theorem hd_byte : ∀ q : Fin 16, (Value.int .u8 (((UInt8.ofNat (hd q.val).toNat).toNat : Nat) : Int)) = Value.int .u8 (hd q.val) := fun q => congrArg (Value.int .u8) ((show ∀ q : Fin 16, (((UInt8.ofNat (hd q.val).toNat).toNat : Nat) : Int) = hd q.val by decide) q)
theorem bytes_step (s : ByteArray) (k : Nat) (p r : Nat) (hp : byteAt s k / 16 = (p : Int)) (hr : byteAt s k % 16 = (r : Int)) :
    Lib.byteCells (strOfNums (hexL s k)).data.toList ++ [.int .u8 (byteAt hexC p)] ++ [.int .u8 (byteAt hexC r)] = Lib.byteCells (strOfNums (hexL s (k + 1))).data.toList := by
  have hb := byteAt_bd s k
  have h1 := hexC_at ⟨p, by omega⟩
  have h2 := hexC_at ⟨r, by omega⟩
  have g1 := hd_byte ⟨p, by omega⟩
  have g2 := hd_byte ⟨r, by omega⟩
  simp only at h1 h2 g1 g2
  rw [h1, h2, strOfNums_data, strOfNums_data, hexL, hp, hr, Lib.byteCells, Lib.byteCells, List.map_append, List.map_append, List.append_assoc]
  congr 1
  simp only [List.map_cons, List.map_nil, g1, g2]
  rfl
set_option maxHeartbeats 2000000 in
set_option maxRecDepth 100000 in
theorem hexP_c (s : ByteArray) (hs : s.size = 16) (w : World) : Calls Tryd.prog 18 #[.agg (ob s)] w (Ret w (.string (hexS s))) := by
  have hos := ob_size s
  have hrw := ob_at s
  have Hon := Hd.mk (ob_one s)
  rw [hs] at hos hrw
  have Hhs := Hd.mk (show hexS s = strOfNums (hexL s 16) from rfl)
  obtain ⟨A, eA⟩ : ∃ A, ob s = A := ⟨_, rfl⟩
  rw [eA] at hos hrw Hon ⊢
  clear eA
  have Hos := Hd.mk hos
  clear hos
  go_enter Tryd.func18, Tryd.ntmps18
  go_wp2_with (refine wpList_load_row rfl _ _ rfl w.heap.size rfl _ A (0, 0) _ (Ext.blk (Ext.alloc (Ext.refl _) _) (heap_alloc_new _ _)) Tryd.underlying28 rfl (by rw [Hos.out]; kernel_rfl) ?_)
  refine wp_name fun Y0 hY0 => ?_
  have hE : Ext w Y0 := by rw [hY0.out]; exact (by repeat (first | exact Ext.refl _ | assumption | apply Ext.alloc | apply Ext.drew | apply Ext.drewN | apply Ext.bytes | apply Ext.iter | refine Ext.setCell ?_ (by simp; omega) _ | refine Ext.trans ?_ (by assumption)))
  have HB0 := Hd.mk (show Lib.IsBuilder 76 5 (w.heap.size + 1) (w.heap.size + 1) (Lib.byteCells (strOfNums (hexL s 0)).data.toList) Y0 by rw [hY0.out]; have h := Lib.fresh_isBuilder 76 5 (w.alloc (.cells A 28)); rw [World.size_alloc] at h; exact h)
  have hsz0 : Y0.heap.size = w.heap.size + 2 := by rw [hY0.out]; simp
  clear hY0
  go_loopw [7] (fun vi wr => ∃ k : Nat, k ≤ 16 ∧ vi = .int .i64 k ∧ Below (w.heap.size + 1) Y0 wr ∧ Hd (Lib.IsBuilder 76 5 (w.heap.size + 1) (w.heap.size + 1) (Lib.byteCells (strOfNums (hexL s k)).data.toList) wr)) (fun i _ => 16 - (intOf i).toNat)
  case atStart => exact ⟨0, by omega, rfl, Below.refl _ _, HB0⟩
  case round =>
    obtain ⟨k, hk, rfl, hEk, hbu⟩ := hrel
    by_cases hlt : k < 16
    · have hlti : (k : Int) < 16 := by omega
      have hb := byteAt_bd s k
      have hA := run_index_row A k hlt _ (hrw k hlt)
      obtain ⟨p, ep⟩ : ∃ p : Nat, byteAt s k / 16 = (p : Int) := ⟨(byteAt s k / 16).toNat, by omega⟩
      obtain ⟨r, er⟩ : ∃ r : Nat, byteAt s k % 16 = (r : Int) := ⟨(byteAt s k % 16).toNat, by omega⟩
      have Hst := Hd.mk (bytes_step s k p r ep er)
      have hls : (Lib.byteCells (strOfNums (hexL s k)).data.toList).length = 2 * k := by rw [Lib.byteCells, List.length_map, strOfNums_data, List.length_map, hexL_length]
      have hand := and15 ⟨(byteAt s k).toNat, by omega⟩
      simp only at hand
      rw [show (((byteAt s k).toNat : Nat) : Int) = byteAt s k from Int.toNat_of_nonneg hb.1] at hand
      generalize byteAt s k = b at *
      generalize Lib.byteCells (strOfNums (hexL s k)).data.toList = out at *
      obtain ⟨out', eo'⟩ : ∃ x, Lib.byteCells (strOfNums (hexL s (k + 1))).data.toList = x := ⟨_, rfl⟩
      rw [eo'] at Hst
      have Heo := Hd.mk eo'
      clear eo'
      rw [er] at hand
      have x1 := run_index_hex p (by omega)
      have x2 := run_index_hex r (by omega)
      generalize byteAt hexC p = c1 at *
      generalize byteAt hexC r = c2 at *
      have hszr := hEk.size
      have HW1 := Hd.mk (writeByte_c (w.heap.size + 1) (w.heap.size + 1) out c1 wr hbu.out (by omega) (by omega))
      have HW2 := Hd.mk (fun w1 h1 h2 => writeByte_c (w.heap.size + 1) (w.heap.size + 1) (out ++ [.int .u8 c1]) c2 w1 h1 (by rw [List.length_append]; simp only [List.length_cons, List.length_nil]; omega) h2)
      go_wp2_with (go_at_call 47; first | (refine (HW2.out w1 (Or.inr Hb1.out) (by omega)).mono ?_; rintro e w2 ⟨rfl, h2, hb2⟩; have Hb2 := Hd.mk h2; clear h2) | (refine HW1.out.mono ?_; rintro e w1 ⟨rfl, h1, hb1⟩; have Hb1 := Hd.mk h1; clear h1; have hsz1 := hb1.size))
      go_roundw
      case rel => exact ⟨k + 1, by omega, by go_num, (hEk.trans hb1).trans hb2, ⟨by rw [Heo.out, ← Hst.out]; exact Or.inr Hb2.out⟩⟩
      case measure => simp [intOf]; omega
    · obtain rfl : k = 16 := by omega
      have hszr := hEk.size
      have HS := Hd.mk (Tryd.Builder_String_any (w.heap.size + 1) (w.heap.size + 1) _ wr hbu.out (by omega))
      go_wp2_with (go_at_call 48; refine HS.out.mono ?_; rintro e w1 ⟨rfl, hb1⟩)
      go_ret
      exact ⟨by rw [Hhs.out]; rfl, Below.trans hE ((hEk.trans hb1).mono (Nat.le_succ _))⟩
end Go.Proofs.YtimecmleaeimkaaDoor
