/- The book's lists of whole numbers: marked. -/
import Derived.Test.YtdmdkkdkmmkalaaGreatBkG
import Derived.Deep.RegionWith
namespace Go.Proofs.YtdmdkkdkmmkalaaGreat
open Go.RowKit

theorem rowI_below {w w1 : World} {v : Value} {xs : List Int} (h : RowI w v xs) (hb : Below w.heap.size w w1) : RowI w1 v xs := by
  obtain ⟨B, h⟩ := h
  exact ⟨B, own_below h hb⟩
theorem RowsIn.below {w w1 : World} {B : Nat} {gs : List Value} {zss : List (List Int)} (h : RowsIn w B gs zss) (hb : Below w.heap.size w w1) : RowsIn w1 B gs zss :=
  ⟨h.len, fun i v xs hv hx => ⟨own_below (h.own i v xs hv hx).1 hb, (h.own i v xs hv hx).2⟩⟩
theorem LsIn.rows {w : World} {g : Nat} {V V' : Value} {ls : List Value} {xss : List (List Int)} (h : LsIn w g V V' ls xss) : RowsIn w (g + 1) ls xss :=
  ⟨h.keptL.len, fun i v xs hv hx => ⟨h.keptL.own i v xs hv hx, by have := h.short xs (List.mem_of_getElem? hx); omega⟩⟩

set_option maxRecDepth 100000 in
set_option maxHeartbeats 1000000 in
theorem markedInts_any {w : World} {B B0 : Nat} {V2 : Value} {gs : List Value} {zss : List (List Int)} (ho : w.ownsRow B0 34 1 V2 gs.length gs) (hr : RowsIn w B gs zss) (hm : IsMarked zss) (few : gs.length ≤ 250) :
    Calls Tryz.prog 45 #[V2] w fun e w' => e = .returned (.bool true) ∧ Below w.heap.size w w' := by
  obtain ⟨n, hn⟩ : ∃ n, gs.length = n := ⟨_, rfl⟩
  rw [hn] at few ho
  obtain ⟨A1, c1, rfl⟩ := own_form ho
  have HN := Lib.hid hn
  have HO := Lib.hid ho
  have HR := Lib.hid hr
  have HM := Lib.hid hm
  clear ho hr hm hn
  go_enter Tryz.func45, Tryz.ntmps45
  go_wp2
  go_loopw [3] (fun i wr => ∃ (k : Nat), k ≤ n ∧ i = .int .i64 (k : Int) ∧ Hid (Below w.heap.size w wr)) (fun i _ => n - (intOf i).toNat)
  case atStart => exact ⟨0, by omega, rfl, Lib.hid (Below.refl _ _)⟩
  case round =>
    obtain ⟨k, hk, rfl, HB⟩ := hrel
    by_cases hlt : k < n
    · have hlen := HR.out.len
      have hng := HN.out
      obtain ⟨v, hv⟩ : ∃ v, gs[k]? = some v := ⟨_, List.getElem?_eq_getElem (by omega)⟩
      obtain ⟨zs, hz⟩ : ∃ zs, zss[k]? = some zs := ⟨_, List.getElem?_eq_getElem (by omega)⟩
      obtain ⟨hoz, hzl⟩ := HR.out.own k v zs hv hz
      have hmz := HM.out k zs hz
      obtain ⟨q, hq⟩ : ∃ q, zs.length = q := ⟨_, rfl⟩
      rw [hq] at hoz hmz hzl
      have hon := own_below HO.out HB.out
      have hoz1 := own_below hoz HB.out
      obtain ⟨g1, d1, e1⟩ := own_pos hon (by omega)
      cases e1
      have hc1 := World.ownsRow.cellAt hon k (by omega)
      rw [hv] at hc1
      obtain ⟨B1, r1, rfl⟩ := own_form hoz
      have hgw : g1 < wr.heap.size := own_lt hon g1 rfl
      have hmk : ∀ W : World, Calls Tryz.prog 67 #[.int .i64 (k : Int), .int .i64 0, .int .i64 (q : Int)] W fun e w' => ∃ v, e = .returned v ∧ w'.ownsRow W.heap.size 3 1 v q ((marksI k 0 q).map encI) ∧ Below W.heap.size W w' := fun W => markInts_any k 0 q (by omega) (by omega) W
      have HK := Lib.hid hmk
      rw [hmz] at hoz1
      have hrow : RowI wr (.slice B1 q r1) (marksI k 0 q) := ⟨B, by rw [marksI_length]; exact hoz1⟩
      have HRW := Lib.hid hrow
      clear hmk hrow hoz1 hoz hv hz hmz hon hlen hng hq
      go_wp2_with fail
      go_region_with (first
        | (go_at_call 67; refine (HK.out _).mono ?_; rintro e w1 ⟨mv, rfl, hmo, hb1⟩; obtain ⟨B2, r2, rfl⟩ := own_form hmo; have hc2 := (hb1.cell (p := ⟨g1, k, none⟩) hgw).trans hc1; have hbw : Below wr.heap.size wr w1 := (by first | exact hb1 | exact (below_drew_self wr).trans hb1); have hr2 : RowI w1 (.slice B2 q r2) (marksI k 0 q) := ⟨_, by rw [marksI_length]; exact hmo⟩; have hr1 := rowI_below HRW.out hbw)
        | (go_at_call 13; refine (sameInts_any _ _ (marksI k 0 q) (marksI k 0 q) _ (by rw [marksI_length]; omega) hr1 hr2).mono ?_; rw [decide_eq_true rfl]; rintro e w2 ⟨rfl, n2, rfl⟩))
      all_goals
        go_wp2
        refine ⟨⟨k + 1, by omega, by go_num, Lib.hid (HB.out.trans (Below.mono ?_ HB.out.size))⟩, by simp [intOf]; omega⟩
        exact (hbw.trans (below_drewN (Below.refl _ _) n2))
    · obtain rfl : k = n := by omega
      go_wp2
      go_ret
      exact ⟨rfl, HB.out⟩
end Go.Proofs.YtdmdkkdkmmkalaaGreat
