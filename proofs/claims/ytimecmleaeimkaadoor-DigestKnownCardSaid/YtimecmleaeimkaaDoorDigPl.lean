/- Plain laws of digests in progress: the state behind a text; adding; what stands behind a text ends its blocks. -/
import Derived.Test.YtimecmleaeimkaaDoorDigZ
namespace Go.Proofs.YtimecmleaeimkaaDoor
open Go.RowKit
set_option linter.unusedVariables false
theorem heap_alloc_at {w : World} {o : Obj} {g : Nat} (h : g = w.heap.size) : (w.alloc o).heap[g]? = some o := by rw [h]; exact heap_alloc_new _ _
theorem heap_alloc_next {w : World} {o o' : Obj} {g : Nat} (h : w.heap[g]? = some o') : (w.alloc o).heap[g]? = some o' := Ext.blk (Ext.alloc (Ext.refl _) _) h
/-- The digest in progress of a text. -/
def stt (p : ByteArray) : Dg := ⟨digS p begin4, p.size, tl p⟩
theorem stt_right (p : ByteArray) (h : p.size ≤ 65536) : rightB (stt p).x (stt p).l (stt p).r = true :=
  begin_right _ _ (by show (0 : Int) ≤ (p.size : Int); omega) (by show (p.size : Int) ≤ 65536; omega) (by show ((tl p).size : Int) = (p.size : Int) % 64; rw [tl_size]; omega) (digS_U begin4_U)
theorem stt_none : stt ⟨#[]⟩ = .new := by unfold stt Dg.new; congr 1
theorem more_stt (p s : ByteArray) (h : p.size + s.size ≤ 65536) : moreS (stt p) s = (stt (p ++ s), 0) := by
  unfold moreS
  rw [if_neg (by rw [stt_right p (by omega)]; decide), if_neg (by show ¬ (65536 : Int) < (p.size : Int) + (s.size : Int); omega)]
  show ((⟨digS (tl p ++ s) (digS p begin4), (p.size : Int) + s.size, tl (tl p ++ s)⟩ : Dg), (0 : Int)) = (stt (p ++ s), 0)
  rw [digS_tl, tl_append]
  unfold stt
  rw [ByteArray.size_append]
  congr 2
theorem more_long (p s : ByteArray) (hp : p.size ≤ 65536) (h : 65536 < p.size + s.size) : moreS (stt p) s = (.zero, 3) := by
  unfold moreS
  rw [if_neg (by rw [stt_right p hp]; decide), if_pos (by show (65536 : Int) < (p.size : Int) + (s.size : Int); omega)]
theorem done_stt (p : ByteArray) (h : p.size ≤ 65536) : doneS (stt p) = sumS p := by
  unfold doneS sumS
  rw [if_neg (by rw [stt_right p h]; decide), if_neg (by omega)]
  show (trow (digS (fin (tl p) (p.size : Int).toNat) (digS p begin4)) 16, (0 : Int)) = _
  simp only [Int.toNat_natCast]
  rw [← fin_end (tl p) p.size (by rw [tl_size]; omega), digS_tl, fin_end p p.size rfl]
theorem check_stt (p : ByteArray) (h : p.size ≤ 65536) : checkS (stt p).x (stt p).l (stt p).r = 0 := by unfold checkS; rw [if_pos (stt_right p h)]
theorem tl_rest (p s : ByteArray) : ∃ a, p = a ++ tl p := by
  refine ⟨p.extract 0 (64 * (p.size / 64)), ?_⟩
  unfold tl
  apply ByteArray.ext
  simp only [ByteArray.data_append, ByteArray.data_extract]
  show p.data = p.data.extract 0 (64 * (p.size / 64)) ++ p.data.extract (64 * (p.size / 64)) p.data.size
  have : 64 * (p.size / 64) ≤ p.data.size := by have : p.data.size = p.size := rfl; omega
  rw [Array.extract_append_extract, Nat.min_eq_left (Nat.zero_le _), Nat.max_eq_right (by have : p.data.size = p.size := rfl; omega)]
  exact (Array.extract_size (xs := p.data)).symm
/-- The numbers of sixteen octets. -/
theorem oct_word (q : Int) (h : U q) : q % 256 + q / 256 % 256 * 256 + q / 65536 % 256 * 65536 + q / 16777216 % 256 * 16777216 = q := by
  unfold U at h; omega
/-- A text with what stands behind it: its digest in progress. -/
theorem stt_fin (s : ByteArray) (h : s.size ≤ 65536) : stt (fin s s.size) = ⟨digS (fin s s.size) begin4, (fin s s.size).size, ⟨#[]⟩⟩ := by
  unfold stt
  congr 1
  have h0 : (tl (fin s s.size)).size = 0 := by rw [tl_size]; exact fin_mod _ _
  apply ByteArray.ext
  exact Array.eq_empty_of_size_eq_zero h0
end Go.Proofs.YtimecmleaeimkaaDoor
