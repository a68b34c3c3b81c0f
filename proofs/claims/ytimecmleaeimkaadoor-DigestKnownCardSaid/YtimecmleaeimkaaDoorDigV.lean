/- The reference's octets, ended, told, begin and changed. -/
import Derived.Test.YtimecmleaeimkaaDoorDigU
import Derived.Test.YtimecmleaeimkaaDoorBase5
import Derived.Test.YtimecmleaeimkaaDoorOct4
import Derived.Laws.OwnMore
import Derived.Laws.AppendOwn
import Derived.RangeFuncBox
import Derived.Maps.AppendAt
namespace Go.Proofs.YtimecmleaeimkaaDoor
open Go.RowKit
set_option linter.unusedVariables false
attribute [local go_sem] q32 q64

theorem Ext.own {w a b : World} {base : Nat} {v : Value} (h : Ext w a) (hg : a.grownBy b v.ownBlock) (hb : ∀ k, v.ownBlock = some k → w.heap.size ≤ k) : Ext w b :=
  ⟨hg.os.trans h.os, hg.tape.trans h.tape, hg.output.trans h.output, Nat.le_trans h.size hg.size, fun k hk => (hg.block k (Nat.lt_of_lt_of_le hk h.size) (fun e => by have := hb k e.symm; omega)).trans (h.block k hk)⟩
theorem conv_one (b : Int) (w : World) :
    (convert 34 9 (.slice (some ⟨w.heap.size, 0, none⟩) 1 1)).run Tryd.prog (w.alloc (.cells #[.int .u8 b] 5)) =
      .ok (.string (strOfNums [b])) (w.alloc (.cells #[.int .u8 b] 5)) := by
  refine run_convert_bytes_arg _ 34 5 Tryd.underlying34 Tryd.underlying5 w.heap.size 0 1 1 [b] rfl (fun i hi => ?_) 9 Tryd.underlying9
  obtain rfl : i = 0 := by omega
  simp

/-- The octets of a number, the least one first. -/
def octL (x : Int) : Nat → List Int
  | 0 => []
  | k + 1 => octL x k ++ [x / 256 ^ k % 256]
theorem octL_length (x : Int) : ∀ k, (octL x k).length = k
  | 0 => rfl
  | k + 1 => by simp [octL, octL_length x k]
theorem octL_bd (x : Int) : ∀ k b, b ∈ octL x k → 0 ≤ b ∧ b < 256
  | 0, b, h => by cases h
  | k + 1, b, h => by
    rcases List.mem_append.1 h with h | h
    · exact octL_bd x k b h
    · obtain rfl := List.mem_singleton.1 h
      omega
def OctsRet (w : World) (x : Int) (n : Nat) (e : Ending) (w' : World) : Prop :=
  ∃ v, e = .returned v ∧ w'.ownsRow w.heap.size 5 1 v n ((octL x n).map (Value.int .u8)) ∧ Ext w w'
set_option maxHeartbeats 1000000 in
set_option maxRecDepth 100000 in
theorem octetsR_c (x : Int) (h0 : 0 ≤ x) (h1 : x < 9223372036854775808) (n : Nat) (hn : n ≤ 8) (w : World) : Calls Tryd.prog 83 #[.int .i64 x, .int .i64 n] w (OctsRet w x n) := by
  obtain ⟨i0, hi, hz0, hz1, hz2⟩ := info_parts (show (Tryd.prog.info? 5).map (fun i => (i.zero, i.size, i.bytes)) = some (some (.int .u8 0), 1, 1) by kernel_rfl)
  have Hi := Hd.mk hi
  have Hz0 := Hd.mk hz0
  have Hz1 := Hd.mk hz1
  have Hz2 := Hd.mk hz2
  clear hi hz0 hz1 hz2
  have hni : (n : Int) ≤ 8 := by omega
  go_enter Tryd.func83, Tryd.ntmps83
  go_wp2
  go_loopw [0, 5, 6] (fun vx vo vi wr => ∃ k : Nat, k ≤ n ∧ vi = .int .i64 k ∧ vx = .int .i64 (x / 256 ^ k) ∧ wr.ownsRow w.heap.size 5 1 vo k ((octL x k).map (Value.int .u8)) ∧ Ext w wr) (fun _ _ vi _ => n - (intOf vi).toNat)
  case atStart => exact ⟨0, by omega, rfl, by simp, World.ownsRow_nil _ _ _ _, Ext.refl _⟩
  case round =>
    obtain ⟨k, hk, rfl, rfl, hown, hE⟩ := hrel
    by_cases hlt : k < n
    · have hlti : (k : Int) < n := by omega
      have hy0 : 0 ≤ x / 256 ^ k := Int.ediv_nonneg h0 (Int.pow_nonneg (by decide))
      have hy1 : x / 256 ^ k ≤ x := Int.ediv_le_self _ h0
      have hnx := Hd.mk (show x / 256 ^ k / 256 = x / 256 ^ (k + 1) by rw [Int.pow_succ, Int.ediv_ediv_of_nonneg (Int.pow_nonneg (by decide))])
      have hol := Hd.mk (show octL x (k + 1) = octL x k ++ [x / 256 ^ k % 256] from rfl)
      generalize x / 256 ^ k = y at *
      obtain ⟨b, eb⟩ : ∃ b, y % 256 = b := ⟨_, rfl⟩
      obtain ⟨y', ey⟩ : ∃ b, y / 256 = b := ⟨_, rfl⟩
      have hb : 0 ≤ b ∧ b < 256 := by omega
      have q1 : IntKind.u8.wrap b = b := by rw [IntKind.wrap_u8]; omega
      have Hob := Hd.mk hown.lt
      have hsz := Ext.size hE
      go_wp2_with (at_builtin; refine wpList_append_own _ rfl _ _ 34 rfl w.heap.size 5 i0 (.int .u8 0) 1 1 Tryd.underlying34 Hi.out Hz0.out Hz1.out Hz2.out rfl (by decide) _ _ _ rfl (hown.alloc _) ⟨wr.heap.size, 0, none⟩ 1 1 [.int .u8 b] rfl rfl ?c1 ?c2 ?c3 ?c4 ?c5 ?_; rotate_left 5; intro v' w1 hown' hgrow _)
      have hE' : Ext w w1 := Ext.own (base := w.heap.size) (Ext.alloc hE _) hgrow (fun k e => (Hob.out k e).1)
      go_roundw
      case rel => exact ⟨k + 1, by omega, by go_num, by rw [← hnx.out, ey], by rw [hol.out, eb, List.map_append]; exact hown', hE'⟩
      case measure => simp [intOf]; omega
      case c1 => exact cell_one_new _ _ _
      case c2 => simp [Value.oneCell']
      case c3 => unfold maxLen; omega
      case c4 => omega
      case c5 => simp; omega
    · obtain rfl : k = n := by omega
      go_wp2
      go_ret
      exact ⟨_, rfl, hown, hE⟩

theorem zeros_snoc (s : ByteArray) (k : Nat) : s ++ zeroS k ++ strOfNums [0] = s ++ zeroS (k + 1) := by
  rw [ByteArray.append_assoc]
  congr 1
  have : (List.replicate (k + 1) (0 : Int)) = List.replicate k 0 ++ [0] := List.replicate_succ'
  unfold zeroS
  rw [this]
  apply ByteArray.ext
  apply Array.ext'
  simp [strOfNums]
theorem zeros_none (s : ByteArray) : s ++ zeroS 0 = s := by
  apply ByteArray.ext
  simp [zeroS, strOfNums]
/-- The zeros behind the octet 128. -/
def finC (l : Nat) : Nat := (119 - l % 64) % 64
def one28 : ByteArray := strOfNums [128]
/-- Octets with what stands behind n of them. -/
def fin (s : ByteArray) (n : Nat) : ByteArray := s ++ one28 ++ zeroS (finC s.size) ++ strOfNums (octL (8 * n) 8)
theorem one28_size : one28.size = 1 := by unfold one28; rw [strOfNums_size]; rfl
theorem fin_size (s : ByteArray) (n : Nat) : (fin s n).size = s.size + 1 + finC s.size + 8 := by
  unfold fin
  rw [ByteArray.size_append, ByteArray.size_append, ByteArray.size_append, one28_size, zeroS_size, strOfNums_size, octL_length]
theorem fin_mod (s : ByteArray) (n : Nat) : (fin s n).size % 64 = 0 := by rw [fin_size]; unfold finC; omega
theorem conv_eight (w : World) (x : Int) (g cap : Nat) (base : Nat) (h : w.ownsRow base 5 1 (.slice (some ⟨g, 0, none⟩) 8 cap) 8 ((octL x 8).map (Value.int .u8))) :
    (convert 34 9 (.slice (some ⟨g, 0, none⟩) 8 cap)).run Tryd.prog w = .ok (.string (strOfNums (octL x 8))) w := by
  refine run_convert_bytes_arg _ 34 5 Tryd.underlying34 Tryd.underlying5 g 0 8 cap (octL x 8) (octL_length x 8) (fun i hi => ?_) 9 Tryd.underlying9
  rw [Nat.zero_add, h.cellAt i (by omega), List.getElem?_map, List.getElem?_eq_getElem (by rw [octL_length]; omega), List.getD_eq_getElem?_getD, List.getElem?_eq_getElem (by rw [octL_length]; omega)]
  rfl
set_option maxHeartbeats 1000000 in
set_option maxRecDepth 100000 in
theorem endedR_c (s : ByteArray) (hs : s.size ≤ 1000000) (n : Nat) (hn : n ≤ 1000000) (w : World) : Calls Tryd.prog 44 #[.string s, .int .i64 n] w (Ret w (.string (fin s n))) := by
  have k1 := conv_one 128
  have k0 := conv_one 0
  have hfin := Hd.mk (show fin s n = s ++ one28 ++ zeroS (finC s.size) ++ strOfNums (octL (8 * n) 8) from rfl)
  have e128 : strOfNums [128] = one28 := rfl
  rw [e128] at k1
  have hos := one28_size
  generalize one28 = one at *
  clear e128
  obtain ⟨Z, eZ⟩ : ∃ Z, strOfNums [0] = Z := ⟨_, rfl⟩
  have HZ := Hd.mk eZ
  rw [eZ] at k0
  have hZs : Z.size = 1 := by rw [← eZ, strOfNums_size]; rfl
  clear eZ
  go_enter Tryd.func44, Tryd.ntmps44
  have hle1 : s.size + one.size ≤ 9223372036854775807 := by omega
  go_wp2
  go_loopw [5] (fun vo wr => ∃ k : Nat, k ≤ finC s.size ∧ vo = .string (s ++ one ++ zeroS k) ∧ Ext w wr) (fun vo _ => 200 + s.size - (match vo with | .string z => z.size | _ => 0))
  case atStart => exact ⟨0, by omega, by rw [zeros_none], (by repeat (first | exact Ext.refl _ | assumption | apply Ext.alloc | apply Ext.drew | apply Ext.drewN | apply Ext.bytes | apply Ext.iter | refine Ext.setCell ?_ (by simp; omega) _ | refine Ext.trans ?_ (by assumption)))⟩
  case round =>
    obtain ⟨k, hk, rfl, hE⟩ := hrel
    have hsz : (s ++ one ++ zeroS k).size = s.size + 1 + k := by rw [ByteArray.size_append, ByteArray.size_append, hos, zeroS_size]
    have hsn := Hd.mk (zeros_snoc (s ++ one) k)
    have hfc : finC s.size < 64 := by unfold finC; omega
    by_cases hlt : k < finC s.size
    · have hne : (((s.size + 1 + k : Nat) : Int) % 64 != 56) = true := by
        rw [bne_iff_ne]; unfold finC at hlt; omega
      generalize s ++ one ++ zeroS k = out at *
      have hle2 : out.size + Z.size ≤ 9223372036854775807 := by omega
      go_wp2
      go_roundw
      case rel => exact ⟨k + 1, by omega, by rw [← hsn.out, HZ.out], (by repeat (first | exact Ext.refl _ | assumption | apply Ext.alloc | apply Ext.drew | apply Ext.drewN | apply Ext.bytes | apply Ext.iter | refine Ext.setCell ?_ (by simp; omega) _ | refine Ext.trans ?_ (by assumption)))⟩
      case measure =>
        have : (out ++ Z).size = out.size + Z.size := ByteArray.size_append
        simp only [this, hsz, hZs]
        omega
    · obtain rfl : k = finC s.size := by omega
      have hne : (((s.size + 1 + finC s.size : Nat) : Int) % 64 != 56) = false := by
        rw [bne_eq_false_iff_eq]; unfold finC; omega
      obtain ⟨T, eT⟩ : ∃ T, strOfNums (octL (8 * (n : Int)) 8) = T := ⟨_, rfl⟩
      have hTs : T.size = 8 := by rw [← eT, strOfNums_size, octL_length]
      obtain ⟨out, eo⟩ : ∃ out, s ++ one ++ zeroS (finC s.size) = out := ⟨_, rfl⟩
      rw [eo] at hsz ⊢
      have Ho := Hd.mk eo
      have eT' := Hd.mk eT
      clear eo hsn
      have hle3 : out.size + T.size ≤ 9223372036854775807 := by omega
      have hO := octetsR_c (8 * (n : Int)) (by omega) (by omega) 8 (by omega)
      have HO := Hd.mk hO
      clear hO
      clear eT
      go_wp2_with (go_at_call 83; refine (HO.out _).mono ?_; rintro e w1 ⟨v, rfl, hown, hb1⟩; obtain ⟨g, cap, rfl⟩ := ownsRow_succ hown; have hcv := conv_eight _ _ g cap _ hown; rw [eT'.out] at hcv)
      go_ret
      exact ⟨by rw [hfin.out, Ho.out, eT'.out]; rfl, (by repeat (first | exact Ext.refl _ | assumption | apply Ext.alloc | apply Ext.drew | apply Ext.drewN | apply Ext.bytes | apply Ext.iter | refine Ext.setCell ?_ (by simp; omega) _ | refine Ext.trans ?_ (by assumption)))⟩

def qn (x : Q4) (i : Nat) : Int := if i = 0 then x.a else if i = 1 then x.b else if i = 2 then x.c else x.d
theorem qn_U {x : Q4} (h : x.U) (i : Nat) : U (qn x i) := by
  unfold qn
  split
  · exact h.a
  · split
    · exact h.b
    · split
      · exact h.c
      · exact h.d
/-- Octet j of four numbers. -/
def oc (x : Q4) (j : Nat) : Int := qn x (j / 4) / 256 ^ (j % 4) % 256
def trow (x : Q4) (k : Nat) : Array Value := ((List.range 16).map fun j => Value.int .u8 (if j < k then oc x j else 0)).toArray
theorem trow_size (x : Q4) (k : Nat) : (trow x k).size = 16 := by unfold trow; simp
theorem trow_one (x : Q4) (k : Nat) : (trow x k).all (·.oneCell') = true := by unfold trow; simp [Value.oneCell']
theorem trow_0 (x : Q4) : trow x 0 = (Array.replicate 16 (Value.int .u8 0)) := by unfold trow; rfl
theorem trow_at (x : Q4) (k j : Nat) (h : j < 16) : (trow x k)[j]? = some (.int .u8 (if j < k then oc x j else 0)) := by
  unfold trow
  rw [List.getElem?_toArray, List.getElem?_map, List.getElem?_range h]
  rfl
theorem trow_set (x : Q4) (k : Nat) (h : k < 16) : (trow x k).setIfInBounds k (.int .u8 (oc x k)) = trow x (k + 1) := by
  apply Array.ext_getElem?
  intro i
  rw [Array.getElem?_setIfInBounds, trow_size]
  by_cases hi : i < 16
  · rw [trow_at x (k + 1) i hi]
    by_cases hik : k = i
    · subst hik; rw [if_pos rfl, if_pos (by omega), if_pos (by omega)]
    · rw [if_neg hik, trow_at x k i hi]
      congr 2
      by_cases hlt : i < k
      · rw [if_pos hlt, if_pos (by omega)]
      · rw [if_neg hlt, if_neg (by omega)]
  · rw [if_neg (by omega), Array.getElem?_eq_none (by rw [trow_size]; omega), Array.getElem?_eq_none (by rw [trow_size]; omega)]
theorem octL_at (x : Int) (n r : Nat) (h : r < n) : (octL x n)[r]? = some (x / 256 ^ r % 256) := by
  induction n with
  | zero => omega
  | succ n ih =>
    unfold octL
    by_cases hr : r < n
    · rw [List.getElem?_append_left (by rw [octL_length]; exact hr)]; exact ih hr
    · obtain rfl : r = n := by omega
      rw [List.getElem?_append_right (by rw [octL_length]; exact Nat.le_refl _), octL_length]
      simp
theorem q32row_at (x : Q4) (i : Nat) (h : i < 4) : (#[.int .i64 x.a, .int .i64 x.b, .int .i64 x.c, .int .i64 x.d] : Array Value)[i]? = some (.int .i64 (qn x i)) := by
  match i, h with
  | 0, _ => rfl
  | 1, _ => rfl
  | 2, _ => rfl
  | 3, _ => rfl
  | n + 4, h => omega
set_option maxHeartbeats 2000000 in
set_option maxRecDepth 100000 in
theorem toldR_c (x : Q4) (hx : x.U) (w : World) : Calls Tryd.prog 41 #[v64 x] w (Ret w (.agg (trow x 16))) := by
  unfold v64 q64
  go_enter Tryd.func41, Tryd.ntmps41
  go_wp2
  refine wp_name fun Y0 hY0 => ?_
  have hE : Ext w Y0 := by rw [hY0.out]; exact (by repeat (first | exact Ext.refl _ | assumption | apply Ext.alloc | apply Ext.drew | apply Ext.drewN | apply Ext.bytes | apply Ext.iter | refine Ext.setCell ?_ (by simp; omega) _ | refine Ext.trans ?_ (by assumption)))
  have H0 := Hd.mk (show Y0.heap[w.heap.size]? = some (.cells #[.int .i64 x.a, .int .i64 x.b, .int .i64 x.c, .int .i64 x.d] 39 (0, 0)) by rw [hY0.out]; exact Ext.blk (Ext.alloc (Ext.alloc (Ext.refl _) _) _) (heap_alloc_new _ _))
  have H1 := Hd.mk (show Y0.heap[w.heap.size + 1]? = some (.cells (trow x 0) 28 (0, 0)) by rw [hY0.out, trow_0]; exact Ext.blk (Ext.alloc (Ext.refl _) _) (heap_new _ _ (by simp)))
  have H2 := Hd.mk (show Y0.heap[w.heap.size + 1 + 1]? = some (.cells (trow x 0) 28 (0, 0)) by rw [hY0.out, trow_0]; exact heap_new _ _ (by simp))
  clear hY0
  go_loopw [4] (fun i wr => ∃ k : Nat, k ≤ 16 ∧ i = .int .i64 k ∧ Exts (· = w.heap.size + 1 + 1) Y0 wr ∧ Hd (wr.heap[w.heap.size + 1 + 1]? = some (.cells (trow x k) 28 (0, 0)))) (fun i _ => 16 - (intOf i).toNat)
  case atStart => exact ⟨0, by omega, rfl, Exts.refl _, H2⟩
  case round =>
    obtain ⟨k, hk, rfl, hEk, hrow⟩ := hrel
    by_cases hlt : k < 16
    · have hlti : (k : Int) < 16 := by omega
      obtain ⟨p, ep⟩ : ∃ p, k / 4 = p := ⟨_, rfl⟩
      obtain ⟨r, er⟩ : ∃ r, k % 4 = r := ⟨_, rfl⟩
      have hp : p < 4 := by omega
      have hr : r < 4 := by omega
      have hpi : (p : Int) < 4 := by omega
      have hri : (r : Int) < 4 := by omega
      have q1 : (k : Int) / 4 = (p : Int) := by omega
      have q2 : (k : Int) % 4 = (r : Int) := by omega
      have hc0 := row_cell (hEk.blk H0.out (by omega)) (q32row_at x p hp)
      have hX := qn_U hx p
      have hoc := Hd.mk (show oc x k = qn x p / 256 ^ r % 256 by unfold oc; rw [ep, er])
      generalize qn x p = X at *
      have hXi := hX
      unfold U at hXi
      have HO := Hd.mk (octetsR_c X hX.1 (by omega) 4 (by omega))
      obtain ⟨b, eb⟩ : ∃ b, X / 256 ^ r % 256 = b := ⟨_, rfl⟩
      have hat : ∀ {w1 : World} {g cap : Nat}, w1.ownsRow wr.heap.size 5 1 (.slice (some ⟨g, 0, none⟩) 4 cap) 4 ((octL X 4).map (Value.int .u8)) → w1.cell? ⟨g, r, none⟩ = some (.int .u8 b) := fun {w1 g cap} h => by
        rw [h.cellAt r (by omega), List.getElem?_map, octL_at X 4 r hr, eb]; rfl
      have Hat := Hd.mk (@hat)
      have Heb := Hd.mk eb
      clear hX ep er eb hat
      go_wp2_with (go_at_call 83; refine (HO.out _).mono ?_; rintro e w1 ⟨v, rfl, hown, hb1⟩; obtain ⟨g, cap, rfl⟩ := ownsRow_succ hown; have hcv := Hat.out hown; have Hown := Hd.mk hown; clear hown; have hbk := Ext.blk hb1 hrow.out; have hbc := row_cell hbk (trow_at x k k hlt); have hbf := row_frozen hbk k; have Hbk := Hd.mk hbk; clear hbk)
      have hEf : Exts (· = w.heap.size + 1 + 1) Y0 (w1.setCell ⟨w.heap.size + 1 + 1, k, none⟩ (.int .u8 b)) := ((hEk.then hb1)).setCell (.inl rfl) _
      have hrf := Hd.mk (show (w1.setCell ⟨w.heap.size + 1 + 1, k, none⟩ (.int .u8 b)).heap[w.heap.size + 1 + 1]? = some (.cells (trow x (k + 1)) 28 (0, 0)) by
        rw [← trow_set x k hlt, hoc.out, Heb.out]; exact setCell_row Hbk.out _)
      go_roundw
      case rel => exact ⟨k + 1, by omega, by go_num, hEf, hrf⟩
      case measure => simp [intOf]; omega
    · obtain rfl : k = 16 := by omega
      have h1 := hEk.blk H1.out (by omega)
      have hEw : Ext w wr := Exts.ext (Exts.trans (Ext.exts hE) hEk) (fun j (hj : j = w.heap.size + 1 + 1) => by omega)
      have h2 := hrow.out
      have hs0 := trow_size x 0
      generalize trow x 0 = T0 at *
      have hs16 := trow_size x 16
      have ho16 := trow_one x 16
      generalize trow x 16 = T at *
      have Hs0 := Hd.mk hs0
      have Hs16 := Hd.mk hs16
      have Ho16 := Hd.mk ho16
      have HH1 := Hd.mk h1
      have HH2 := Hd.mk h2
      clear hs0 hs16 ho16 h1 h2
      go_wp2_with (first | (refine wpList_load_row rfl _ _ rfl (w.heap.size + 1 + 1) rfl _ T (0, 0) _ HH2.out Tryd.underlying28 rfl (by rw [Hs16.out]; kernel_rfl) ?_) | (refine wpList_store_row rfl _ _ _ rfl (w.heap.size + 1) T rfl rfl _ _ HH1.out (by rw [Hs16.out]; kernel_rfl) (by rw [Hs16.out, Hs0.out]) Ho16.out ?_))
      refine bodyPost_ret (results_cell_row Tryd.results41 _ _ (w.heap.size + 1) _ _ _ _ rfl (setRow_heap _ _ _ _ _ _ HH1.out) Tryd.underlying28 rfl (by rw [Hs16.out]; kernel_rfl)) rfl ?_
      exact ⟨rfl, Ext.setRow hEw (by omega) _⟩
set_option maxHeartbeats 1000000 in
theorem beginR_c (w : World) : Calls Tryd.prog 43 #[] w (Ret w (v64 begin4)) := by
  go_enter Tryd.func43, Tryd.ntmps43
  go_wp2
  refine bodyPost_ret (v := v64 begin4) (by simp [results, Tryd.results43, go_sem, v64, begin4]) rfl ⟨rfl, (by repeat (first | exact Ext.refl _ | assumption | apply Ext.alloc | apply Ext.drew | apply Ext.drewN | apply Ext.bytes | apply Ext.iter | refine Ext.setCell ?_ (by simp; omega) _ | refine Ext.trans ?_ (by assumption)))⟩

/-- The numbers of a part, shifted. -/
theorem rd_cut' (s : ByteArray) (a b k : Nat) (hk : k + 3 < b - a) (hb : b ≤ s.size) : rd (s.extract a b) k = rd s (a + k) := by
  have c : ∀ j, j < 4 → byteAt (s.extract a b) (k + j) = byteAt s (a + (k + j)) := fun j hj => byteAt_cut s a b (k + j) (by omega) hb
  unfold rd
  have c0 := c 0 (by omega)
  simp only [Nat.add_zero] at c0
  rw [c0, c 1 (by omega), c 2 (by omega), c 3 (by omega)]
  rfl
theorem blk_cut (s : ByteArray) (a b p : Nat) (hp : p + 64 ≤ b - a) (hb : b ≤ s.size) (x : Q4) : blk (wd (s.extract a b) p) x = blk (wd s (a + p)) x := by
  refine blk_congr (fun k hk => ?_) x
  unfold wd
  rw [rd_cut' s a b _ (by omega) hb, Nat.add_assoc]
/-- n + 1 blocks: the first one, and n. -/
theorem chg_first (s : ByteArray) : ∀ (n : Nat) (x : Q4), 64 * (n + 1) ≤ s.size → chg s (n + 1) x = chg (s.extract 64 s.size) n (blk (wd (s.extract 0 64) 0) x)
  | 0, x, h => by
    show blk (wd s (64 * 0)) x = blk (wd (s.extract 0 64) 0) x
    rw [blk_cut s 0 64 0 (by omega) (by omega)]
  | n + 1, x, h => by
    show blk (wd s (64 * (n + 1))) (chg s (n + 1) x) = blk (wd (s.extract 64 s.size) (64 * n)) (chg (s.extract 64 s.size) n _)
    rw [chg_first s n x (by omega), blk_cut s 64 s.size (64 * n) (by omega) (Nat.le_refl _)]
    rw [show 64 + 64 * n = 64 * (n + 1) from by omega]
def q64L (x : Q4) : Array Value := #[.int .i64 x.a, .int .i64 x.b, .int .i64 x.c, .int .i64 x.d]
def Q4C (wr : World) (B : Nat) (x : Q4) (w' : World) : Prop := Ext wr w' ∧ w'.cell? ⟨B, 0, none⟩ = some (.int .i64 x.a) ∧ w'.cell? ⟨B, 1, none⟩ = some (.int .i64 x.b) ∧ w'.cell? ⟨B, 2, none⟩ = some (.int .i64 x.c) ∧ w'.cell? ⟨B, 3, none⟩ = some (.int .i64 x.d)
theorem Q4C.of {wr : World} {B : Nat} {x : Q4} {t : TypeId} (h : wr.heap[B]? = some (.cells (q64L x) t (0, 0))) : ∀ w', Ext wr w' → Q4C wr B x w' := fun w' hw =>
  ⟨hw, Ext.cell hw (row_cell h rfl), Ext.cell hw (row_cell h rfl), Ext.cell hw (row_cell h rfl), Ext.cell hw (row_cell h rfl)⟩
set_option maxHeartbeats 2000000 in
set_option maxRecDepth 100000 in
theorem changedR_c (x : Q4) (hx : x.U) (s : ByteArray) (hs : s.size ≤ 140737488355328) (w : World) : Calls Tryd.prog 42 #[v64 x, .string s] w (Ret w (v64 (chg s (s.size / 64) x))) := by
  unfold v64 q64
  go_enter Tryd.func42, Tryd.ntmps42
  go_wp2
  refine wp_name fun Y0 hY0 => ?_
  have hE : Ext w Y0 := by rw [hY0.out]; exact (by repeat (first | exact Ext.refl _ | assumption | apply Ext.alloc | apply Ext.drew | apply Ext.drewN | apply Ext.bytes | apply Ext.iter | refine Ext.setCell ?_ (by simp; omega) _ | refine Ext.trans ?_ (by assumption)))
  have H0 := Hd.mk (show Y0.heap[w.heap.size]? = some (.cells (q64L x) 39 (0, 0)) by rw [hY0.out]; exact Ext.blk (Ext.alloc (Ext.refl _) _) (heap_alloc_new _ _))
  have H1 := Hd.mk (show Y0.heap[w.heap.size + 1]? = some (.cells #[.int .i64 0, .int .i64 0, .int .i64 0, .int .i64 0] 39 (0, 0)) by rw [hY0.out]; exact heap_new _ _ (by simp))
  clear hY0
  go_loopw [1] (fun vs wr => ∃ (z : ByteArray) (y : Q4), vs = .string z ∧ y.U ∧ z.size ≤ 140737488355328 ∧ Hd (chg z (z.size / 64) y = chg s (s.size / 64) x) ∧ Exts (· = w.heap.size) Y0 wr ∧ Hd (wr.heap[w.heap.size]? = some (.cells (q64L y) 39 (0, 0)))) (fun vs _ => match vs with | .string z => z.size | _ => 0)
  case atStart => exact ⟨s, x, rfl, hx, hs, ⟨rfl⟩, Exts.refl _, H0⟩
  case round =>
    obtain ⟨z, y, rfl, hyU, hz, heq, hEk, hrow⟩ := hrel
    by_cases hlt : 64 ≤ z.size
    · have hlti : (64 : Int) ≤ z.size := by omega
      have HB := Hd.mk (blockR_c y hyU (z.extract 0 64) (by rw [ByteArray.size_extract]; omega))
      have hnu := blk_U (wd (z.extract 0 64) 0) y
      have hstep := Hd.mk (chg_first z (z.size / 64 - 1) y (by omega))
      generalize blk (wd (z.extract 0 64) 0) y = y' at *
      have hrs : (z.extract 64 z.size).size = z.size - 64 := by rw [ByteArray.size_extract]; omega
      have Hrs := Hd.mk hrs
      clear hrs
      go_upto_region 2 with fail
      refine wp_region_x (Q4C wr w.heap.size y) true (by kernel_rfl) (by kernel_rfl) (Q4C.of hrow.out _ (by repeat (first | exact Ext.refl _ | assumption | apply Ext.alloc | apply Ext.drew | apply Ext.drewN | apply Ext.bytes | apply Ext.iter | refine Ext.setCell ?_ (by simp; omega) _ | refine Ext.trans ?_ (by assumption)))) ?_
      (repeat (first
         | (refine wpX_skip rfl ?_; (try simp only [Act.put, List.setIfInBounds_toArray, List.set_cons_zero, List.set_cons_succ]))
         | (apply wpX_still; exact rfl; exact rfl; (rintro w' ⟨hw', f0, f1, f2, f3⟩; go_simp; first | done | exact rfl); (try simp only [Act.put, List.setIfInBounds_toArray, List.set_cons_zero, List.set_cons_succ]))))
      (refine wpX_busy rfl rfl ?_; go_simp; go_at_call 84; refine (HB.out _).mono ?_; rintro e wb ⟨rfl, hb⟩; refine ⟨_, rfl, Q4C.of hrow.out _ (by repeat (first | exact Ext.refl _ | assumption | apply Ext.alloc | apply Ext.drew | apply Ext.drewN | apply Ext.bytes | apply Ext.iter | refine Ext.setCell ?_ (by simp; omega) _ | refine Ext.trans ?_ (by assumption))), ?_⟩; (try simp only [Act.put, List.setIfInBounds_toArray, List.set_cons_zero, List.set_cons_succ]))
      have hEb : Ext wr wb := (by repeat (first | exact Ext.refl _ | assumption | apply Ext.alloc | apply Ext.drew | apply Ext.drewN | apply Ext.bytes | apply Ext.iter | refine Ext.setCell ?_ (by simp; omega) _ | refine Ext.trans ?_ (by assumption)))
      refine wpX_last rfl rfl (busy_store_row _ _ _ rfl w.heap.size (q64L y') rfl rfl _ _ (Ext.blk hEb hrow.out) (by kernel_rfl) rfl (by simp [q64L, Value.oneCell']) trivial ?_)
      refine wpX_nil fun wf hwf => ?_
      have hEf : Exts (· = w.heap.size) Y0 wf := by rw [hwf.out]; exact (hEk.then hEb).setRow (.inl rfl) _
      have hrf := Hd.mk (show wf.heap[w.heap.size]? = some (.cells (q64L y') 39 (0, 0)) by rw [hwf.out]; exact setRow_heap _ _ _ _ _ _ (Ext.blk hEb hrow.out))
      clear hwf
      go_wp2
      go_roundw
      case rel => exact ⟨_, y', rfl, hnu, by rw [Hrs.out]; omega, ⟨by rw [← heq.out, Hrs.out, show z.size / 64 = (z.size / 64 - 1) + 1 from by omega, hstep.out, show (z.size - 64) / 64 = z.size / 64 - 1 from by omega]⟩, hEf, hrf⟩
      case measure => simp only [Hrs.out]; omega
    · have h1 := hEk.blk H1.out (by omega)
      have hEw : Ext w wr := Exts.ext (Exts.trans (Ext.exts hE) hEk) (fun j (hj : j = w.heap.size) => by omega)
      have hfin := Hd.mk (show y = chg s (s.size / 64) x by rw [← heq.out, show z.size / 64 = 0 from by omega]; rfl)
      have HH1 := Hd.mk h1
      clear h1
      go_wp2_with (first | (refine wpList_load_row rfl _ _ rfl w.heap.size rfl _ (q64L y) (0, 0) _ hrow.out Tryd.underlying39 rfl (by kernel_rfl) ?_) | (refine wpList_store_row rfl _ _ _ rfl (w.heap.size + 1) (q64L y) rfl rfl _ _ HH1.out (by kernel_rfl) rfl (by simp [q64L, Value.oneCell']) ?_))
      refine bodyPost_ret (results_cell_row Tryd.results42 _ _ (w.heap.size + 1) _ _ _ _ rfl (setRow_heap _ _ _ _ _ _ HH1.out) Tryd.underlying39 rfl (by kernel_rfl)) rfl ?_
      exact ⟨by rw [← hfin.out]; rfl, Ext.setRow hEw (by omega) _⟩
end Go.Proofs.YtimecmleaeimkaaDoor
