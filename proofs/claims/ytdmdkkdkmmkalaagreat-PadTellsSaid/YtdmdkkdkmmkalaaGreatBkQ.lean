/- The book's lists of whole numbers: put. -/
import Derived.Test.YtdmdkkdkmmkalaaGreatBkP
namespace Go.Proofs.YtdmdkkdkmmkalaaGreat
open Go.RowKit

structure LsIn (w : World) (g : Nat) (V V' : Value) (ls : List Value) (xss : List (List Int)) : Prop where
  book : Blk w g 32 (bookI V V')
  rowV : w.ownsRow (g + 1) 34 1 V ls.length ls
  keptL : Kept w (g + 1) 3 encI ls xss
  few : ls.length ≤ 250
  short : ∀ xs ∈ xss, xs.length ≤ 1000000
theorem IntsIn.ls {w : World} {g : Nat} {V V' : Value} {ls was : List Value} {xss : List (List Int)} (h : IntsIn w g V V' ls was xss) : LsIn w g V V' ls xss := ⟨h.book, h.rowV, h.keptL, h.few, h.short⟩
theorem LsIn.below {w w1 : World} {g : Nat} {V V' : Value} {ls : List Value} {xss : List (List Int)} (h : LsIn w g V V' ls xss) (hb : Below w.heap.size w w1) : LsIn w1 g V V' ls xss :=
  ⟨Blk.below h.book hb, own_below h.rowV hb, h.keptL.below hb, h.few, h.short⟩
theorem LsIn.at_ {w : World} {g n : Nat} {V V' : Value} {ls : List Value} {xss : List (List Int)} (h : LsIn w g V V' ls xss) (hn : ls.length = n) (k : Nat) (hk : k < n) :
    ∃ g1 c1 a xs, V = .slice (some ⟨g1, 0, none⟩) n c1 ∧ w.cell? ⟨g1, k, none⟩ = some a ∧ xss[k]? = some xs ∧ ls[k]? = some a ∧ w.ownsRow (g + 1) 3 1 a xs.length (xs.map encI) ∧ xs.length ≤ 1000000 := by
  obtain ⟨a, xs, ha, hx, hoa⟩ := h.keptL.get k (by omega)
  have hV := h.rowV
  rw [hn] at hV
  obtain ⟨g1, d1, e1⟩ := own_pos hV (by omega)
  subst e1
  have hc1 := World.ownsRow.cellAt hV k (by omega)
  rw [ha] at hc1
  exact ⟨g1, d1, a, xs, rfl, hc1, hx, ha, hoa, h.short xs (List.mem_of_getElem? hx)⟩
/-- The world has grown by the block of row k alone, which now holds ys. -/
theorem LsIn.put {w w1 : World} {g : Nat} {V V' : Value} {ls : List Value} {xss : List (List Int)} (h : LsIn w g V V' ls xss) {k : Nat} {a : Value} {xs ys : List Int} (ha : ls[k]? = some a) (hx : xss[k]? = some xs)
    (hg : w.grownBy w1 a.ownBlock) (ho : w1.ownsRow (g + 1) 3 1 a ys.length (ys.map encI)) (hl : ys.length = xs.length) : LsIn w1 g V V' ls (xss.set k ys) := by
  have hk := Lib.ownsRow_kind (h.keptL.own k a xs ha hx)
  refine ⟨?_, ?_, h.keptL.put ha hx hg ho, h.few, ?_⟩
  · refine blk_grown h.book hg ?_
    intro e
    have := own_base ho g e.symm
    omega
  · refine World.ownsRow.kept h.rowV hg ?_
    cases hb : V.ownBlock with
    | none => exact .inl rfl
    | some q =>
      refine .inr ?_
      intro e
      obtain ⟨c, fz, h1⟩ := hk q e.symm
      obtain ⟨c2, fz2, h2⟩ := Lib.ownsRow_kind h.rowV q hb
      rw [h1] at h2
      simp at h2
  · intro zs hz
    rcases List.mem_or_eq_of_mem_set hz with hz | rfl
    · exact h.short zs hz
    · rw [hl]; exact h.short xs (List.mem_of_getElem? hx)
theorem marksI_get (i f n j : Nat) (h : j < n) : (marksI i f n)[j]? = some (markI i (f + j)) := by simp [marksI, h]
theorem marked_step {zs : List Int} {i j : Nat} (h : zs.take j = marksI i 0 j) (hj : j < zs.length) : (zs.set j (markI i j)).take (j + 1) = marksI i 0 (j + 1) := by
  rw [List.take_set, List.take_add_one, List.getElem?_eq_getElem hj, marksI_succ, h]
  have hl : (marksI i 0 j).length = j := marksI_length i 0 j
  simp only [Option.toList_some, Nat.zero_add]
  rw [List.set_append_right _ _ (by omega), hl]
  simp
def IsMarked (xss : List (List Int)) : Prop := ∀ i ys, xss[i]? = some ys → ys = marksI i 0 ys.length
def MarkedTo (k : Nat) (xss : List (List Int)) : Prop := ∀ i ys, i < k → xss[i]? = some ys → ys = marksI i 0 ys.length

theorem below_drew_self (w : World) : Below w.heap.size w w.drew := ⟨rfl, rfl, rfl, Nat.le_refl _, fun _ _ => rfl⟩

set_option maxRecDepth 100000 in
set_option maxHeartbeats 1000000 in
theorem putInts_any {w : World} {g : Nat} {V V' : Value} {ls : List Value} {xss : List (List Int)} (h : LsIn w g V V' ls xss) :
    Calls Tryz.prog 32 #[.pointer (some ⟨g, 0, none⟩)] w fun e w' => e = .returned (.tuple #[]) ∧ (∃ yss, LsIn w' g V V' ls yss ∧ IsMarked yss) ∧ Below (g + 1) w w' := by
  obtain ⟨n, hn⟩ : ∃ n, ls.length = n := ⟨_, rfl⟩
  have hn250 := h.few
  rw [hn] at hn250
  have H := Lib.hid h
  obtain ⟨A1, c1, e1⟩ := own_form h.rowV
  rw [hn] at e1
  subst e1
  have HN := Lib.hid hn
  have hgl := Blk.lt h.book
  clear h hn
  go_enter Tryz.func32, Tryz.ntmps32
  go_wp2
  go_loopw [2] (fun i wr => ∃ (k : Nat) (yss : List (List Int)), k ≤ n ∧ i = .int .i64 (k : Int) ∧ Hid (LsIn wr g (.slice A1 n c1) V' ls yss) ∧ Hid (MarkedTo k yss) ∧ Hid (Below (g + 1) w wr)) (fun i _ => n - (intOf i).toNat)
  case atStart => exact ⟨0, xss, by omega, rfl, H, Lib.hid (fun i ys hi => by omega), Lib.hid (Below.refl _ _)⟩
  case round =>
    obtain ⟨k, yss, hk, rfl, HL, HM, HB⟩ := hrel
    have hb2 : wr.cell? ⟨g, 2, none⟩ = some (.slice A1 n c1) := Blk.cell HL.out.book 2
    by_cases hlt : k < n
    · obtain ⟨g1, d1, a, xs, e1, hc1, hx, ha, hoa, hsh⟩ := HL.out.at_ HN.out k hlt
      cases e1
      obtain ⟨q, hq⟩ : ∃ q, xs.length = q := ⟨_, rfl⟩
      rw [hq] at hsh hoa
      obtain ⟨B1, r1, rfl⟩ := own_form hoa
      have hmk : ∀ W : World, Calls Tryz.prog 67 #[.int .i64 (k : Int), .int .i64 0, .int .i64 (q : Int)] W fun e w' => ∃ v, e = .returned v ∧ w'.ownsRow W.heap.size 3 1 v q ((marksI k 0 q).map encI) ∧ Below W.heap.size W w' := fun W => markInts_any k 0 q (by omega) (by omega) W
      have HX := Lib.hid hx
      have HQ := Lib.hid hq
      have HA := Lib.hid ha
      have HO := Lib.hid hoa
      have HK := Lib.hid hmk
      clear hx hq ha hoa hmk
      go_wp2_with fail
      refine (HK.out _).mono ?_
      rintro e w1 ⟨mv, rfl, hmo, hb1⟩
      obtain ⟨B2, r2, rfl⟩ := own_form hmo
      have HL1 := Lib.hid (HL.out.below hb1)
      have hsz1 := hb1.size
      have HB1 := Lib.hid ((HB.out).trans (hb1.mono (by have := Blk.lt HL.out.book; omega)))
      have hq1 : ∀ z, (Value.slice B1 q r1).ownBlock = some z → z < wr.heap.size := own_lt HO.out
      have HMO := Lib.hid hmo
      clear hmo hb1
      obtain ⟨M, hM⟩ : ∃ M, wr.heap.size = M := ⟨_, rfl⟩
      rw [hM] at hq1 HMO
      have hstart : LsIn w1 g (.slice (some ⟨g1, 0, none⟩) n c1) V' ls (yss.set k xs) := by
        have : yss.set k xs = yss := by
          obtain ⟨hi, hxs⟩ := List.getElem?_eq_some_iff.1 HX.out
          rw [← hxs]; exact List.set_getElem_self hi
        rw [this]; exact HL1.out
      have HST := Lib.hid hstart
      clear hstart hM
      go_wp2_with fail
      go_loopw [4] (fun t w2 => ∃ (j : Nat) (zs : List Int), j ≤ q ∧ t = .int .i64 (j : Int) ∧ Hid (LsIn w2 g (.slice (some ⟨g1, 0, none⟩) n c1) V' ls (yss.set k zs)) ∧ Hid (zs.length = q) ∧ Hid (zs.take j = marksI k 0 j) ∧ Hid (w2.ownsRow M 3 1 (.slice B2 q r2) q ((marksI k 0 q).map encI)) ∧ Hid (Below (g + 1) w w2)) (fun t _ => q - (intOf t).toNat)
      case atStart => exact ⟨0, xs, by omega, rfl, HST, HQ, Lib.hid (by simp [marksI]), HMO, HB1⟩
      case round =>
        obtain ⟨j, zs, hj, rfl, HL2, HZ, HT, HMO2, HB2⟩ := hrel
        by_cases hlt2 : j < q
        · have hkl : k < yss.length := (List.getElem?_eq_some_iff.1 HX.out).1
          have hzk : (yss.set k zs)[k]? = some zs := List.getElem?_set_self hkl
          have hoz := HL2.out.keptL.own k _ zs HA.out hzk
          rw [HZ.out] at hoz
          obtain ⟨b1, r3, e3⟩ := own_pos hoz (by omega)
          cases e3
          obtain ⟨b2, r4, e4⟩ := own_pos HMO2.out (by omega)
          cases e4
          have hba : b1 < M := hq1 b1 rfl
          have hbb : M ≤ b2 := own_base HMO2.out b2 rfl
          have hc2 : wr.cell? ⟨g1, k, none⟩ = some (.slice (some ⟨b1, 0, none⟩) q r1) := by
            obtain ⟨_, _, _, _, e5, hc5, _, ha5, _⟩ := HL2.out.at_ HN.out k hlt
            rw [HA.out] at ha5
            cases ha5
            cases e5
            exact hc5
          have hb3 : wr.cell? ⟨g, 2, none⟩ = some (.slice (some ⟨g1, 0, none⟩) n c1) := Blk.cell HL2.out.book 2
          have hmc := World.ownsRow.cellAt HMO2.out j (by omega)
          rw [List.getElem?_map, marksI_get _ _ _ _ hlt2, Nat.zero_add] at hmc
          obtain ⟨x, hx⟩ : ∃ x, markI k j = x := ⟨_, rfl⟩
          rw [hx] at hmc
          simp only [Option.map_some] at hmc
          have hfr := World.ownsRow.frozenAt hoz j
          obtain ⟨u, hu⟩ : ∃ u, wr.cell? ⟨b1, j, none⟩ = some u := by
            rw [World.ownsRow.cellAt hoz j (by omega)]
            exact ⟨_, List.getElem?_eq_getElem (by simp [HZ.out, hlt2])⟩
          have HOZ := Lib.hid hoz
          have HX2 := Lib.hid hx
          have HZK := Lib.hid hzk
          clear hoz hx hzk hc1 hb2
          go_wp2_with fail
          go_region
          all_goals
            go_wp2
            have hst := World.ownsRow.stored HOZ.out j (encI x)
            have hzl : (zs.set j x).length = zs.length := by simp
            have hput : LsIn (wr.setCell ⟨b1, j, none⟩ (encI x)) g (.slice (some ⟨g1, 0, none⟩) n c1) V' ls ((yss.set k zs).set k (zs.set j x)) := by
              refine HL2.out.put HA.out HZK.out hst.2 ?_ hzl
              rw [hzl, HZ.out, List.map_set]
              exact hst.1
            rw [List.set_set] at hput
            have hgk := own_base HOZ.out b1 rfl
            refine ⟨⟨j + 1, zs.set j x, by omega, by go_num, hput.below (below_drew_self _), by rw [hzl]; exact HZ, ?_, ?_, ?_⟩, by simp [intOf]; omega⟩
            · have := marked_step HT.out (by rw [HZ.out]; exact hlt2)
              rw [HX2.out] at this
              exact this
            · refine own_below (ownsRow_setCell_other HMO2.out ?_ _) (below_drew_self _)
              simp only [Value.ownBlock, ne_eq, Option.some.injEq]
              omega
            · exact ((HB2.out).setCell (by show g + 1 ≤ b1; omega) _).drew
        · obtain rfl : j = q := by omega
          go_wp2
          have hkl : k < yss.length := (List.getElem?_eq_some_iff.1 HX.out).1
          refine ⟨⟨k + 1, yss.set k zs, by omega, by go_num, HL2, ?_, HB2⟩, by simp [intOf]; omega⟩
          intro i ys hi hy
          by_cases hik : k = i
          · subst hik
            rw [List.getElem?_set_self hkl] at hy
            cases hy
            have := HT.out
            rw [List.take_of_length_le (by rw [HZ.out]; exact Nat.le_refl _)] at this
            rw [HZ.out]
            exact this
          · rw [List.getElem?_set_ne hik] at hy
            exact HM.out i ys (by omega) hy
    · obtain rfl : k = n := by omega
      go_wp2
      go_end0
      refine ⟨rfl, ⟨yss, HL.out, ?_⟩, HB.out⟩
      intro i ys hy
      refine HM.out i ys ?_ hy
      have := (List.getElem?_eq_some_iff.1 hy).1
      rw [← HL.out.keptL.len, HN.out] at this
      exact this
end Go.Proofs.YtdmdkkdkmmkalaaGreat
