/- The book: does each list lie apart? -/
import Derived.Test.YtdmdkkdkmmkalaaGreatBkN
import Derived.Test.YtdmdkkdkmmkalaaGreatBkE
namespace Go.Proofs.YtdmdkkdkmmkalaaGreat
open Go.RowKit

set_option maxRecDepth 100000 in
set_option maxHeartbeats 1000000 in
theorem apartInts_any {w : World} {g : Nat} {V V' : Value} {ls was : List Value} {xss : List (List Int)} (h : IntsIn w g V V' ls was xss) :
    Calls Tryz.prog 14 #[.pointer (some ⟨g, 0, none⟩)] w fun e w' => e = .returned (.bool true) ∧ Below g w w' := by
  have H := Lib.hid h
  obtain ⟨A1, n1, c1, rfl⟩ : ∃ A n c, V = .slice A n c := by obtain ⟨A, c, e⟩ := own_form h.rowV; exact ⟨_, _, _, e⟩
  have few := h.few
  have hgl := Blk.lt h.book
  clear h
  go_enter Tryz.func14, Tryz.ntmps14
  go_wp2_with fail
  refine (stillTexts_none g _ (Blk.cell H.out.book 0)).mono ?_
  rintro e wx ⟨rfl, hwx⟩
  rw [hwx]
  clear hwx wx
  go_wp2_with fail
  refine (stillInts_any H.out).mono ?_
  rintro e w1 ⟨rfl, m1, hw1⟩
  have hb1 : Below w.heap.size w w1 := by rw [hw1]; exact below_drewN_self w m1
  have H1 := Lib.hid (H.out.below hb1)
  clear hw1
  go_wp2_with fail
  refine (stillRules_none g _ (Blk.cell H1.out.book 4)).mono ?_
  rintro e wx ⟨rfl, hwx⟩
  rw [hwx]
  clear hwx wx
  go_wp2_with fail
  refine (stillNotes_none g _ (Blk.cell H1.out.book 6)).mono ?_
  rintro e wx ⟨rfl, hwx⟩
  rw [hwx]
  clear hwx wx
  go_wp2_with fail
  refine (stillItems_none g _ (Blk.cell H1.out.book 8)).mono ?_
  rintro e wx ⟨rfl, hwx⟩
  rw [hwx]
  clear hwx wx
  go_wp2_with fail
  refine (stillCommands_none g _ (Blk.cell H1.out.book 10)).mono ?_
  rintro e wx ⟨rfl, hwx⟩
  rw [hwx]
  clear hwx wx
  go_wp2_with fail
  refine (stillReplies_none g _ (Blk.cell H1.out.book 12)).mono ?_
  rintro e wx ⟨rfl, hwx⟩
  rw [hwx]
  clear hwx wx
  go_wp2_with fail
  refine (putReplies_none g _ (Blk.cell H1.out.book 12)).mono ?_
  rintro e wx ⟨rfl, hwx⟩
  rw [hwx]
  clear hwx wx
  go_wp2_with fail
  refine (putTexts_none g _ (Blk.cell H1.out.book 0)).mono ?_
  rintro e wx ⟨rfl, hwx⟩
  rw [hwx]
  clear hwx wx
  go_wp2_with fail
  refine (putInts_any H1.out.ls).mono ?_
  rintro e w2 ⟨rfl, ⟨yss, hl2, hm2⟩, hb2⟩
  have H2 := Lib.hid hl2
  have HM := Lib.hid hm2
  clear hl2 hm2
  go_wp2_with fail
  refine (putRules_none g _ (Blk.cell H2.out.book 4)).mono ?_
  rintro e wx ⟨rfl, hwx⟩
  rw [hwx]
  clear hwx wx
  go_wp2_with fail
  refine (putNotes_none g _ (Blk.cell H2.out.book 6)).mono ?_
  rintro e wx ⟨rfl, hwx⟩
  rw [hwx]
  clear hwx wx
  go_wp2_with fail
  refine (putItems_none g _ (Blk.cell H2.out.book 8)).mono ?_
  rintro e wx ⟨rfl, hwx⟩
  rw [hwx]
  clear hwx wx
  go_wp2_with fail
  refine (putCommands_none g _ (Blk.cell H2.out.book 10)).mono ?_
  rintro e wx ⟨rfl, hwx⟩
  rw [hwx]
  clear hwx wx
  go_wp2_with fail
  refine (growTexts_none g _ (Blk.cell H2.out.book 0)).mono ?_
  rintro e wx ⟨rfl, hwx⟩
  rw [hwx]
  clear hwx wx
  go_wp2_with fail
  refine (growInts_any H2.out HM.out).mono ?_
  rintro e w3 ⟨V2, gs, zss, rfl, hg3, hgs, hl3, hb3⟩
  have H3 := Lib.hid hl3
  have HG := Lib.hid hg3
  have HO := Lib.hid (show w3.ownsRow w2.heap.size 34 1 V2 gs.length gs from by rw [hgs]; exact hg3.out)
  obtain ⟨A2, n2, c2, rfl⟩ : ∃ A n c, V2 = .slice A n c := by obtain ⟨A, c, e⟩ := own_form HO.out; exact ⟨_, _, _, e⟩
  clear hl3 hg3
  go_wp2_with fail
  refine (growRules_none g _ (Blk.cell H3.out.book 4)).mono ?_
  rintro e wx ⟨rfl, hwx⟩
  rw [hwx]
  clear hwx wx
  go_wp2_with fail
  refine (growNotes_none g _ (Blk.cell H3.out.book 6)).mono ?_
  rintro e wx ⟨rfl, hwx⟩
  rw [hwx]
  clear hwx wx
  go_wp2_with fail
  refine (growItems_none g _ (Blk.cell H3.out.book 8)).mono ?_
  rintro e wx ⟨rfl, hwx⟩
  rw [hwx]
  clear hwx wx
  go_wp2_with fail
  refine (growCommands_none g _ (Blk.cell H3.out.book 10)).mono ?_
  rintro e wx ⟨rfl, hwx⟩
  rw [hwx]
  clear hwx wx
  go_wp2_with fail
  refine (growReplies_none g _ (Blk.cell H3.out.book 12)).mono ?_
  rintro e wx ⟨rfl, hwx⟩
  rw [hwx]
  clear hwx wx
  have hc0 : w3.cell? ⟨g, 0, none⟩ = some (.slice none 0 0) := Blk.cell H3.out.book 0
  go_wp2_with fail
  refine (markedTexts_none _).mono ?_
  rintro e wx ⟨rfl, hwx⟩
  rw [hwx]
  clear hwx wx
  go_wp2_with fail
  refine (markedTexts_none _).mono ?_
  rintro e wx ⟨rfl, hwx⟩
  rw [hwx]
  clear hwx wx
  go_wp2_with fail
  refine (markedInts_any HO.out HG.out.rows HG.out.marked (by omega)).mono ?_
  rintro e w4 ⟨rfl, hb4⟩
  have H4 := Lib.hid (H3.out.below hb4)
  have hc2 : w4.cell? ⟨g, 2, none⟩ = some (.slice A1 n1 c1) := Blk.cell H4.out.book 2
  go_wp2_with fail
  refine (markedInts_any H4.out.rowV H4.out.rows HM.out (by omega)).mono ?_
  rintro e w5 ⟨rfl, hb5⟩
  have H5 := Lib.hid (H4.out.below hb5)
  have hd4 : w5.cell? ⟨g, 4, none⟩ = some (.slice none 0 0) := Blk.cell H5.out.book 4
  have hd6 : w5.cell? ⟨g, 6, none⟩ = some (.slice none 0 0) := Blk.cell H5.out.book 6
  have hd8 : w5.cell? ⟨g, 8, none⟩ = some (.slice none 0 0) := Blk.cell H5.out.book 8
  have hd10 : w5.cell? ⟨g, 10, none⟩ = some (.slice none 0 0) := Blk.cell H5.out.book 10
  have hd12 : w5.cell? ⟨g, 12, none⟩ = some (.slice none 0 0) := Blk.cell H5.out.book 12
  go_wp2_with fail
  refine (markedRules_none _).mono ?_
  rintro e wx ⟨rfl, hwx⟩
  rw [hwx]
  clear hwx wx
  go_wp2_with fail
  refine (markedRules_none _).mono ?_
  rintro e wx ⟨rfl, hwx⟩
  rw [hwx]
  clear hwx wx
  go_wp2_with fail
  refine (markedNotes_none _).mono ?_
  rintro e wx ⟨rfl, hwx⟩
  rw [hwx]
  clear hwx wx
  go_wp2_with fail
  refine (markedNotes_none _).mono ?_
  rintro e wx ⟨rfl, hwx⟩
  rw [hwx]
  clear hwx wx
  go_wp2_with fail
  refine (markedItems_none _).mono ?_
  rintro e wx ⟨rfl, hwx⟩
  rw [hwx]
  clear hwx wx
  go_wp2_with fail
  refine (markedItems_none _).mono ?_
  rintro e wx ⟨rfl, hwx⟩
  rw [hwx]
  clear hwx wx
  go_wp2_with fail
  refine (markedCommands_none _).mono ?_
  rintro e wx ⟨rfl, hwx⟩
  rw [hwx]
  clear hwx wx
  go_wp2_with fail
  refine (markedCommands_none _).mono ?_
  rintro e wx ⟨rfl, hwx⟩
  rw [hwx]
  clear hwx wx
  go_wp2_with fail
  refine (markedReplies_none _).mono ?_
  rintro e wx ⟨rfl, hwx⟩
  rw [hwx]
  clear hwx wx
  go_wp2_with fail
  refine (markedReplies_none _).mono ?_
  rintro e wx ⟨rfl, hwx⟩
  rw [hwx]
  clear hwx wx
  go_wp2
  go_ret
  have hle : g ≤ w2.heap.size := by have := hb2.size; have := hb1.size; omega
  exact ⟨rfl, ((((hb1.mono (by omega)).trans (hb2.mono (by omega))).trans (hb3.mono (by omega))).trans (hb4.mono (by have := hb3.size; omega))).trans (hb5.mono (by have := hb3.size; have := hb4.size; omega))⟩
end Go.Proofs.YtdmdkkdkmmkalaaGreat
