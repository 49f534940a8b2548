/- The walk of ShakeAgrees. -/
import Derived.Test.YtkcfbipnhnboaaaGreatCi
import Derived.Deep.RegionHeld3
import Derived.Deep.DeepCutAuto

namespace Go.Proofs.YtkcfbipnhnboaaaGreat
open Go.RowKit

set_option maxHeartbeats 1000000 in
theorem tidyL_name (l : List (ByteArray × ByteArray)) (i : Nat) (h : i < l.length) : nameAt (tidyL l) i = nameAt l i := by
  rw [nameAt, nameAt, tidyL, List.getD_eq_getElem?_getD, List.getD_eq_getElem?_getD, List.getElem?_map, List.getElem?_eq_getElem h]; rfl
theorem tidyL_len (l : List (ByteArray × ByteArray)) : (tidyL l).length = l.length := List.length_map ..
theorem tidyL_size {l : List (ByteArray × ByteArray)} (h : ∀ p ∈ l, p.1.size ≤ maxLen) : ∀ p ∈ tidyL l, p.1.size ≤ maxLen := by
  intro p hp
  rw [tidyL, List.mem_map] at hp
  obtain ⟨q, hq, rfl⟩ := hp
  exact h q hq
theorem ok_at {l : List (ByteArray × ByteArray)} (h : UsersOk l) {i : Nat} (hi : i < l.length) : userOk (nameAt l i) (secAt l i) = true := by
  have := h.2.1 l[i] (List.getElem_mem hi)
  rw [nameAt, secAt, List.getD_eq_getElem?_getD, List.getElem?_eq_getElem hi]
  exact this

set_option maxHeartbeats 4000000 in
set_option maxRecDepth 100000 in
theorem shakeAgrees_main (bl o c : Nat) (l : List (ByteArray × ByteArray)) (k now : Int) (a b : ByteArray) (w : World) (hn1 : 1 ≤ l.length) (hn10 : l.length ≤ 10) (ha : a.size ≤ 60) (hb : b.size ≤ 60) (hbl : bl < w.heap.size) (hI : UsersFrom w bl o l) (hz : ∀ p ∈ l, p.1.size ≤ maxLen)
    (hnow : -9223372036854775808 ≤ now) (hnow2 : now ≤ 9223372036854775807) :
    Calls Tryz.prog 4 #[.slice (some ⟨bl, o, none⟩) l.length c, .int .i64 k, .string a, .string b, .int .i64 now] w fun e w' => e = .returned (.bool true) ∧ Below w.heap.size w w' := by
  have HAL : Box (∀ W : World, Calls Tryz.prog 12 #[] W fun e w' => e = .returned (.bool true) ∧ Below W.heap.size W w') := ⟨fun W => alive_any W⟩
  have HTI : Box (∀ W : World, Below w.heap.size w W → Calls Tryz.prog 26 #[.slice (some ⟨bl, o, none⟩) l.length c] W fun e w' => ∃ g r, e = .returned (.slice (some ⟨g, 0, none⟩) l.length r) ∧ w.heap.size ≤ g ∧ g < w'.heap.size ∧ UsersIn w' g (tidyL l) ∧ Below w.heap.size w w') := ⟨fun W hW => by
    refine (tidy_some bl o c l W (by omega) (Nat.lt_of_lt_of_le hbl hW.size) ?_).mono ?_
    · intro i hi
      obtain ⟨h1, h2⟩ := hI i hi
      exact ⟨(hW.cell (p := ⟨bl, _, none⟩) hbl).trans h1, (hW.cell (p := ⟨bl, _, none⟩) hbl).trans h2⟩
    · rintro e w' ⟨v, rfl, hown, hb2⟩
      obtain ⟨g, r, rfl⟩ := own_pos hown (by omega)
      exact ⟨g, r, rfl, Nat.le_trans hW.size (own_base hown g rfl), own_lt hown g rfl, usersIn_of_own hown rfl, hW.trans (hb2.mono hW.size)⟩⟩
  have HUS : Box (∀ (W : World) (g r : Nat), g < W.heap.size → UsersIn W g (tidyL l) → Calls Tryz.prog 27 #[.slice (some ⟨g, 0, none⟩) l.length r] W fun e w' => e = .returned (.bool (usersOkB (tidyL l))) ∧ Below W.heap.size W w') := ⟨fun W g r hg hU => by
    have := refUsers_some g r (tidyL l) W (by rw [tidyL_len]; omega) hg hU (tidyL_size hz)
    rw [tidyL_len] at this
    exact this⟩
  have hlen := tidyL_len l
  obtain ⟨n, hn⟩ : ∃ n, l.length = n := ⟨_, rfl⟩
  rw [hn] at HTI HUS hn1 hn10 hlen ⊢
  obtain ⟨lt, hlt⟩ : ∃ lt, tidyL l = lt := ⟨_, rfl⟩
  rw [hlt] at HTI HUS hlen
  have hq0 : ((n : Int) == 0) = false := by simp; omega
  have hq10 : ¬ 10 < n := by omega
  have hq60 : ¬ 60 < a.size := by omega
  have hq61 : ¬ 60 < b.size := by omega
  clear hI hz hn hlt hbl
  cases hok : usersOkB lt with
  | false =>
    rw [hok] at HUS
    clear hok hlen
    go_enter Tryz.func4, Tryz.ntmps4
    go_wp2_with fail
    refine (HAL.out _).mono ?_
    rintro e w1 ⟨rfl, hb1⟩
    have H1 := Box.mk hb1
    clear hb1
    go_wp2_with fail
    refine (HTI.out _ H1.out).mono ?_
    rintro e w2 ⟨sb, r, rfl, hsb, hsb2, hU2, hb2⟩
    have H2 := Box.mk (And.intro hU2 hb2)
    clear hU2 hb2
    go_wp2_with fail
    refine (HUS.out _ _ _ hsb2 H2.out.1).mono ?_
    rintro e w3 ⟨rfl, hb3⟩
    have H3 := Box.mk (H2.out.2.trans (hb3.mono H2.out.2.size))
    clear hb3
    go_wp2
    go_ret
    exact ⟨rfl, H3.out⟩
  | true =>
    rw [hok] at HUS
    have hUok := (usersOkB_iff lt).1 hok
    -- who it is
    have hb1 : -(n : Int) < k.tmod (n : Int) := by have := Int.lt_tmod_of_pos k (show (0 : Int) < n by omega); omega
    have hb2 : k.tmod (n : Int) < (n : Int) := Int.tmod_lt_of_pos k (by omega)
    obtain ⟨j, hj⟩ : ∃ j : Nat, (k.tmod (n : Int) + (n : Int)) % (n : Int) = (j : Int) := ⟨((k.tmod (n : Int) + (n : Int)) % (n : Int)).toNat, by rw [Int.toNat_of_nonneg (Int.emod_nonneg _ (by omega))]⟩
    have hjn : j < n := by have := Int.emod_lt_of_pos (k.tmod (n : Int) + (n : Int)) (show (0 : Int) < n by omega); omega
    have hme := ok_at hUok (i := j) (by omega)
    have HRC : Box (∀ L, FreshOf L lt → ∃ g, recOf L (nameAt lt j) = some (newRec (nameAt lt j, secAt lt j) g)) := ⟨fun L hL => fresh_rec hL hUok.2.2 (by omega)⟩
    have hcell : ∀ (W : World) (g : Nat), UsersIn W g lt → W.cell? ⟨g, j * 2, none⟩ = some (.string (nameAt lt j)) ∧ W.cell? ⟨g, j * 2 + 1, none⟩ = some (.string (secAt lt j)) := fun W g h => h j (by omega)
    obtain ⟨u, hu⟩ : ∃ u, nameAt lt j = u := ⟨_, rfl⟩
    obtain ⟨s, hs⟩ : ∃ s, secAt lt j = s := ⟨_, rfl⟩
    rw [hu, hs] at hme HRC
    simp only [hu, hs] at hcell
    have HCE := Box.mk hcell
    have HNW : Box (∀ (W : World) (g r : Nat), Below w.heap.size w W → g < W.heap.size → UsersIn W g lt → Calls Tryz.prog 28 #[.slice (some ⟨g, 0, none⟩) n r] W fun e w' => ∃ ub L, e = .returned (.tuple #[.pointer (some ⟨ub, 0, none⟩), .int .i64 0]) ∧ Solo w ub L w' ∧ FreshOf L lt ∧ Below W.heap.size W w') := ⟨fun W g r hW hg hU => by
      have := new_yes g lt r W hUok hg hU
      rw [hlen] at this
      exact this.mono fun e w' h => solo_of_new hW hUok h⟩
    have HFA : Box (∀ W : World, Calls Tryz.prog 16 #[.string a, .int .i64 16] W fun e w' => e = .returned (.string (fillB a 16)) ∧ W = w') := ⟨fun W => fill_any a 16 W (by omega)⟩
    have HFB : Box (∀ W : World, Calls Tryz.prog 16 #[.string b, .int .i64 16] W fun e w' => e = .returned (.string (fillB b 16)) ∧ W = w') := ⟨fun W => fill_any b 16 W (by omega)⟩
    have ha16 := fillB_size a 16
    have hb16 := fillB_size b 16
    obtain ⟨an, han⟩ : ∃ an, fillB a 16 = an := ⟨_, rfl⟩
    obtain ⟨bn, hbn⟩ : ∃ bn, fillB b 16 = bn := ⟨_, rfl⟩
    rw [han] at HFA ha16
    rw [hbn] at HFB hb16
    have husz := nameOk_size ((userOk_iff u s).1 hme).1
    have hssz := ((userOk_iff u s).1 hme).2
    have hhok := helloOk_of hme ha16
    have hr1 : ∀ L, gotR L (hostNew bn) (helloB u an) now = (hostMid u an bn, L, letterB 2 bn, 0) := fun L => gotR_hello L u an bn _ hhok
    have hpm := proofB_size s (papersOf u an bn)
    have hr2 : ∀ L g, recOf L u = some (newRec (u, s) g) → gotR L (hostMid u an bn) (letterB 3 (proofB s (papersOf u an bn))) now = (⟨bn, 2, false, u, papersOf u an bn, true, upOf s (papersOf u an bn), downOf s (papersOf u an bn)⟩, updL L u goodR, letterB 4 (finishB s (papersOf u an bn)), 0) := fun L g hg => by
      have := gotR_proof L u an bn _ now _ hpm hg (newRec_unlocked hg now)
      rw [if_pos (show proofB s (papersOf u an bn) = proofB (newRec (u, s) g).secret (papersOf u an bn) from rfl)] at this
      exact this
    have hr3 : ∀ L, gotR L ⟨bn, 2, false, u, papersOf u an bn, true, upOf s (papersOf u an bn), downOf s (papersOf u an bn)⟩ (letterB 3 (proofB s (papersOf u an bn))) now = (⟨bn, 2, false, u, papersOf u an bn, true, upOf s (papersOf u an bn), downOf s (papersOf u an bn)⟩, L, ByteArray.empty, 7) := fun L => gotR_over L _ _ _ (.inr rfl)
    have hf1 := isFixed_letter 2 16 bn (by omega) hb16
    have hhz := helloB_size u an
    have hcz := letterB_size 2 bn
    have hpz := papersOf_size u an bn
    have hpp : helloB u an ++ letterB 2 bn = papersOf u an bn := rfl
    have hmg : (hostMid u an bn).got = 1 := rfl
    obtain ⟨hlo, hhl⟩ : ∃ hlo, helloB u an = hlo := ⟨_, rfl⟩
    obtain ⟨c2, hc2⟩ : ∃ c2, letterB 2 bn = c2 := ⟨_, rfl⟩
    obtain ⟨p, hp⟩ : ∃ p, papersOf u an bn = p := ⟨_, rfl⟩
    obtain ⟨hm, hhm⟩ : ∃ hm, hostMid u an bn = hm := ⟨_, rfl⟩
    rw [hhl] at hhz hr1 hpp
    rw [hc2] at hcz hr1 hf1 hpp
    rw [hp] at hpm hr2 hr3 hpp hpz
    rw [hhm] at hr1 hr2 hmg
    obtain ⟨pm, hpm2⟩ : ∃ pm, letterB 3 (proofB s p) = pm := ⟨_, rfl⟩
    have hpmz : pm.size ≤ 1000 := by rw [← hpm2, letterB_size, hpm]; decide
    obtain ⟨fm, hfm2⟩ : ∃ fm, letterB 4 (finishB s p) = fm := ⟨_, rfl⟩
    rw [hpm2] at hr2 hr3
    rw [hfm2] at hr2
    obtain ⟨ku, hku⟩ : ∃ ku, upOf s p = ku := ⟨_, rfl⟩
    obtain ⟨kd, hkd⟩ : ∃ kd, downOf s p = kd := ⟨_, rfl⟩
    rw [hku, hkd] at hr2 hr3
    have HPG : Box (∀ (ub : Nat) (L : List URec) (W : World), Solo w ub L W → Calls Tryz.prog 13 #[.agg #[.string u, .string s], .string an] W fun e w' => ∃ g, e = .returned (.pointer (some ⟨g, 0, none⟩)) ∧ PairS w ub g L (guestC u s hlo ByteArray.empty 0) w' ∧ Below W.heap.size W w') := ⟨fun ub L W hW => by
      rw [← hhl]
      refine (newGuest_any u s an W (by omega)).mono ?_
      intro e w' hq
      unfold GuestNew at hq
      rw [hme, decide_eq_true ha16] at hq
      obtain ⟨g, hg, rfl, hG, hb⟩ := hq
      exact ⟨g, rfl, ⟨hW.below hb, hG, Nat.le_trans hW.bel.size hg⟩, hb⟩⟩
    have HPH : Box (∀ (ub g : Nat) (L : List URec) (gc : Array Value) (W : World), PairS w ub g L gc W → Calls Tryz.prog 29 #[.pointer (some ⟨ub, 0, none⟩), .string bn] W fun e w' => ∃ hb, e = .returned (.pointer (some ⟨hb, 0, none⟩)) ∧ Duo w ub g hb L gc (hostNew bn) w' ∧ Below W.heap.size W w') := ⟨fun ub g L gc W hW => by
      refine (newHost_yes ub bn W hb16).mono ?_
      rintro e w' ⟨rfl, hH, hb2⟩
      exact ⟨W.heap.size, rfl, ⟨⟨hW.solo.users.below hb2, Blk.below hW.guest hb2, hH, hW.lowG, hW.solo.bel.size, hW.solo.lowU, hW.solo.secs, hostOk_new hb16⟩, hW.solo.bel.trans (hb2.mono hW.solo.bel.size)⟩, hb2⟩⟩
    have HR : Box _ := ⟨And.intro hr1 (And.intro hr2 (And.intro hr3 (And.intro hmg (And.intro hpp (And.intro hpm2 (And.intro hfm2 (And.intro hf1 (And.intro hku hkd))))))))⟩
    have hlz : hlo.size ≤ 100 := by omega
    have hlz0 : 0 < hlo.size := by omega
    have hcz2 : c2.size ≤ 100 := by omega
    have hpz2 : p.size ≤ 200 := by omega
    have hsz2 : s.size ≤ 32 := by omega
    have hjj : (j : Int) < (n : Int) := by omega
    clear hok hUok hme hcell hu hs hlen han hbn husz hssz hhok hr1 hr2 hr3 hf1 hpp hhl hc2 hp hhm hpm2 hfm2 hpm hhz hcz hpz hmg ha16 hb16 hku hkd
    go_enter Tryz.func4, Tryz.ntmps4
    go_wp2_with fail
    refine (HAL.out _).mono ?_
    rintro e w1 ⟨rfl, hb1⟩
    have H1 := Box.mk hb1
    clear hb1
    go_wp2_with fail
    refine (HTI.out _ H1.out).mono ?_
    rintro e w2 ⟨sb, r, rfl, hsb, hsb2, hU2, hb2⟩
    have H2 := Box.mk (And.intro hU2 hb2)
    clear hU2 hb2
    go_wp2_with fail
    refine (HUS.out _ _ _ hsb2 H2.out.1).mono ?_
    rintro e w3 ⟨rfl, hb3⟩
    have hU3 : UsersIn w3 sb lt := fun i hi => ⟨(hb3.cell (p := ⟨sb, _, none⟩) hsb2).trans (H2.out.1 i hi).1, (hb3.cell (p := ⟨sb, _, none⟩) hsb2).trans (H2.out.1 i hi).2⟩
    have hsb3 : sb < w3.heap.size := Nat.lt_of_lt_of_le hsb2 hb3.size
    have H3 := Box.mk (And.intro hU3 (H2.out.2.trans (hb3.mono H2.out.2.size)))
    have e0 : w3.cell? ⟨sb, j * 2, none⟩ = some (.string u) := (HCE.out w3 sb hU3).1
    have e1 : w3.cell? ⟨sb, j * 2 + 1, none⟩ = some (.string s) := (HCE.out w3 sb hU3).2
    clear hb3 hU3
    obtain ⟨wm, hwm⟩ : ∃ wm, w3.alloc (.cells #[.string u, .string s] 23) = wm := ⟨_, rfl⟩
    have hM : Blk wm w3.heap.size 23 #[.string u, .string s] := by rw [← hwm]; exact Blk.new w3 _
    have halm : Below w3.heap.size w3 wm := by rw [← hwm]; exact (Below.refl _ _).alloc (Nat.le_refl _) _
    have hUm : UsersIn wm sb lt := fun i hi => ⟨(halm.cell (p := ⟨sb, _, none⟩) hsb3).trans (H3.out.1 i hi).1, (halm.cell (p := ⟨sb, _, none⟩) hsb3).trans (H3.out.1 i hi).2⟩
    have HM := Box.mk (And.intro hM (And.intro (H3.out.2.trans (halm.mono H3.out.2.size)) (And.intro (Nat.lt_of_lt_of_le hsb3 halm.size) hUm)))
    clear hM halm hUm
    go_wp2_with fail
    try rw [hwm]
    clear hwm e0 e1
    refine (HNW.out _ _ _ HM.out.2.1 HM.out.2.2.1 HM.out.2.2.2).mono ?_
    rintro e w4 ⟨ub, L, rfl, hS4, hF4, hb4⟩
    obtain ⟨gr, hgr⟩ := HRC.out L hF4
    have hM4 := Blk.below HM.out.1 hb4
    have m0 : w4.cell? ⟨w3.heap.size, 0, none⟩ = some (.string u) := Blk.cell hM4 0
    have m1 : w4.cell? ⟨w3.heap.size, 1, none⟩ = some (.string s) := Blk.cell hM4 1
    have H4 := Box.mk (And.intro hS4 (And.intro hgr hM4))
    clear hS4 hF4 hb4 hgr hM4
    obtain ⟨mk, hmk⟩ : ∃ mk, w3.heap.size = mk := ⟨_, rfl⟩
    rw [hmk] at H4 m0 m1 ⊢
    clear hmk
    go_upto_region 8 with fail
    go_cut [14, 15] (fun x y W => ∃ g hb : Nat, x = .pointer (some ⟨g, 0, none⟩) ∧ y = .pointer (some ⟨hb, 0, none⟩) ∧ Box (Duo w ub g hb L (guestC u s hlo ByteArray.empty 0) (hostNew bn) W ∧ Blk W mk 23 #[.string u, .string s]))
    case first =>
      go_region_held3 (fun W => W.cell? ⟨mk, 0, none⟩ = some (.string u) ∧ W.cell? ⟨mk, 1, none⟩ = some (.string s)) (first | exact ⟨Blk.cell H6.out.2 0, Blk.cell H6.out.2 1⟩ | exact ⟨Blk.cell H5.out.2 0, Blk.cell H5.out.2 1⟩ | go_keep)
        ((first
          | (go_at_call_of 16 (Value.string a); refine (HFA.out _).mono ?_; rintro e w5 ⟨rfl, rfl⟩)
          | (go_at_call_of 16 (Value.string b); refine (HFB.out _).mono ?_; rintro e w5 ⟨rfl, rfl⟩)
          | (go_at_call 13; refine (HPG.out _ _ _ (H4.out.1.below (Below.refl _ _).drew)).mono ?_; rintro e w5 ⟨g, rfl, hS5, hb5⟩; have H5 := Box.mk (And.intro hS5 (Blk.below (Blk.drew H4.out.2.2) hb5)); clear hS5 hb5)
          | (go_at_call 29; refine (HPH.out _ _ _ _ _ H5.out.1).mono ?_; rintro e w6 ⟨hb, rfl, hS6, hb6⟩; have H6 := Box.mk (And.intro hS6 (Blk.below H5.out.2 hb6)); clear hS6 hb6)))
      all_goals
        go_wp2_with fail
        go_meet
        exact ⟨_, _, rfl, rfl, H6⟩
    case rest =>
      obtain ⟨g, hb, rfl, rfl, HC⟩ := hcut
      clear m0 m1
      go_wp2_with fail
      refine (duo_hello HC.out.1).mono ?_
      rintro e w5 ⟨rfl, rfl⟩
      go_wp2_with fail
      refine (duo_gotK HC.out.1 (by omega) (Nat.zero_le _) hnow hnow2 (HR.out.1 _) HC.out.2 (by decide) (by decide)).mono ?_
      rintro e w5 ⟨rfl, hS5⟩
      have H5 := Box.mk hS5
      clear hS5
      have HCH : Box (Calls Tryz.prog 18 #[.pointer (some ⟨g, 0, none⟩), .string c2] w5 fun e w' => e = .returned (.tuple #[.string pm, .int .i64 0]) ∧ Duo w ub g hb L (guestC u s hlo p 1) hm w' ∧ Blk w' mk 23 #[.string u, .string s]) := ⟨by
        have := duo_chalK H5.out.1 hlz0 (by omega) (by omega) (by omega) HR.out.2.2.2.2.2.2.2.1 H5.out.2 (by decide)
        rw [HR.out.2.2.2.2.1, HR.out.2.2.2.2.2.1] at this
        exact this⟩
      go_wp2_with fail
      refine HCH.out.mono ?_
      rintro e w6 ⟨rfl, hS6⟩
      have H6 := Box.mk hS6
      clear hS6
      go_wp2_with fail
      refine (duo_gotK H6.out.1 (by omega) (by rw [HR.out.2.2.2.1]; decide) hnow hnow2 (HR.out.2.1 _ _ H4.out.2.1) H6.out.2 (by decide) (by decide)).mono ?_
      rintro e w7 ⟨rfl, hS7⟩
      have H7 := Box.mk hS7
      clear hS7
      have HFN : Box (Calls Tryz.prog 22 #[.pointer (some ⟨g, 0, none⟩), .string fm] w7 fun e w' => e = .returned (.tuple #[.agg #[.string ku, .string kd], .int .i64 0]) ∧ Duo w ub g hb _ (guestC u s hlo p 2) _ w' ∧ Blk w' mk 23 #[.string u, .string s]) := ⟨by
        have := duo_finK H7.out.1 hlz0 (by omega) (by omega) HR.out.2.2.2.2.2.2.1 H7.out.2 (by decide)
        rw [HR.out.2.2.2.2.2.2.2.2.1, HR.out.2.2.2.2.2.2.2.2.2] at this
        exact this⟩
      go_wp2_with fail
      refine HFN.out.mono ?_
      rintro e w8 ⟨rfl, hS8⟩
      obtain ⟨w9, hw9⟩ : ∃ w9, w8.alloc (.cells #[.string ku, .string kd] 44) = w9 := ⟨_, rfl⟩
      have hal : Below w8.heap.size w8 w9 := by rw [← hw9]; exact (Below.refl _ _).alloc (Nat.le_refl _) _
      have hK9 : Blk w9 w8.heap.size 44 #[.string ku, .string kd] := by rw [← hw9]; exact Blk.new w8 _
      have H9 := Box.mk (And.intro (hS8.1.below hal) (And.intro (Blk.below hS8.2 hal) hK9))
      clear hS8 hal hK9
      obtain ⟨kk, hkk⟩ : ∃ kk, w8.heap.size = kk := ⟨_, rfl⟩
      rw [hkk] at H9
      go_wp2_with fail
      try rw [hw9]
      try rw [hkk]
      clear hw9
      refine (got_any hb ub _ _ pm now _ (by omega) (show 2 ≤ 999999 by decide) H9.out.1.sess.ok H9.out.1.sess.secs hnow hnow2 H9.out.1.sess.host H9.out.1.sess.users).mono ?_
      intro e w10 he
      have hch := he.2.2.2
      obtain ⟨he1, hS10, hc10⟩ := H9.out.1.sess.got (show 2 ≤ 999999 by decide) (by omega) he
      rw [HR.out.2.2.1] at he1 hS10
      subst he1
      have hnot : ∀ (q : Nat) (t : TypeId) (cs : Array Value), Blk w9 q t cs → t ≠ 123 → t ≠ 111 → Blk w10 q t cs := fun q t cs hq h1 h2 => hch.block hq (by
        rintro (e | ⟨r, hr, e⟩)
        · exact blk_ne hq H9.out.1.sess.host h1 e
        · exact blk_ne (H9.out.1.sess.users.cells r hr) hq (fun e => h2 e.symm) e)
      have hM10 := hnot _ _ _ H9.out.2.1 (by decide) (by decide)
      have hK10 := hnot _ _ _ H9.out.2.2 (by decide) (by decide)
      have hD10 : Duo w ub g hb _ (guestC u s hlo p 2) _ w10 := ⟨hS10, below_chg H9.out.1.bel H9.out.1.bel.size hc10⟩
      have m0 : w10.cell? ⟨mk, 0, none⟩ = some (.string u) := Blk.cell hM10 0
      have q0 : w10.cell? ⟨kk, 0, none⟩ = some (.string ku) := Blk.cell hK10 0
      have q1 : w10.cell? ⟨kk, 1, none⟩ = some (.string kd) := Blk.cell hK10 1
      have H10 := Box.mk (And.intro hD10 (And.intro hM10 hK10))
      clear he hch hS10 hc10 hnot hM10 hK10 hD10
      have HDN : Box (∀ W : World, Below w10.heap.size w10 W → Calls Tryz.prog 31 #[.pointer (some ⟨hb, 0, none⟩)] W fun e w' => e = .returned (.bool true) ∧ W = w') := ⟨fun W hW => hDone_any hb ub _ W (H10.out.1.below hW).sess.host⟩
      have HUR : Box (∀ W : World, Below w10.heap.size w10 W → Calls Tryz.prog 32 #[.pointer (some ⟨hb, 0, none⟩)] W fun e w' => e = .returned (.string u) ∧ W = w') := ⟨fun W hW => hUser_any hb ub _ W (H10.out.1.below hW).sess.host⟩
      have HKS : Box (∀ W : World, Below w10.heap.size w10 W → Calls Tryz.prog 33 #[.pointer (some ⟨hb, 0, none⟩)] W fun e w' => e = .returned (.agg #[.string ku, .string kd]) ∧ Below W.heap.size W w') := ⟨fun W hW => hKeys_any hb ub _ W (H10.out.1.below hW).sess.host⟩
      go_upto_region 16 with fail
      go_region_held3 (fun W => W.cell? ⟨mk, 0, none⟩ = some (.string u) ∧ W.cell? ⟨kk, 0, none⟩ = some (.string ku) ∧ W.cell? ⟨kk, 1, none⟩ = some (.string kd)) (first | exact ⟨Blk.cell (Blk.below H10.out.2.1 HB11.out) 0, Blk.cell (Blk.below H10.out.2.2 HB11.out) 0, Blk.cell (Blk.below H10.out.2.2 HB11.out) 1⟩ | go_keep)
        ((first
          | (go_at_call 31; refine (HDN.out _ (by first | exact HB11.out | exact (Below.refl _ _).drew)).mono ?_; rintro e w12 ⟨rfl, rfl⟩)
          | (go_at_call 32; refine (HUR.out _ (Below.refl _ _).drew).mono ?_; rintro e w12 ⟨rfl, rfl⟩)
          | (go_at_call 33; refine (HKS.out _ (Below.refl _ _).drew).mono ?_; rintro e w11 ⟨rfl, hb11⟩; have HB11 := Box.mk ((Below.refl w10.heap.size w10).drew.trans hb11); clear hb11)))
      all_goals
        go_wp2
        go_ret
        exact ⟨rfl, H10.out.1.bel.trans (HB11.out.mono H10.out.1.bel.size)⟩

set_option maxHeartbeats 2000000 in
set_option maxRecDepth 100000 in
theorem shakeAgrees_refuse (v : Option Addr) (n c : Nat) (k now : Int) (a b : ByteArray) (w : World) (h : n = 0 ∨ 10 < n ∨ 60 < a.size ∨ 60 < b.size) (hn : n ≤ maxLen) : Calls Tryz.prog 4 #[.slice v n c, .int .i64 k, .string a, .string b, .int .i64 now] w fun e w' => e = .returned (.bool true) ∧ Below w.heap.size w w' := by
  have HAL : Box (∀ W : World, Calls Tryz.prog 12 #[] W fun e w' => e = .returned (.bool true) ∧ Below W.heap.size W w') := ⟨fun W => alive_any W⟩
  unfold maxLen at hn
  by_cases h1 : n = 0
  · subst h1
    clear h
    go_enter Tryz.func4, Tryz.ntmps4
    go_wp2_with fail
    refine (HAL.out _).mono ?_
    rintro e w1 ⟨rfl, hb1⟩
    go_wp2
    go_ret
    exact ⟨rfl, hb1⟩
  · have hq0 : ((n : Int) == 0) = false := by simp; omega
    by_cases h2 : 10 < n
    · clear h
      go_enter Tryz.func4, Tryz.ntmps4
      go_wp2_with fail
      refine (HAL.out _).mono ?_
      rintro e w1 ⟨rfl, hb1⟩
      go_wp2
      go_ret
      exact ⟨rfl, hb1⟩
    · by_cases h3 : 60 < a.size
      · clear h
        go_enter Tryz.func4, Tryz.ntmps4
        go_wp2_with fail
        refine (HAL.out _).mono ?_
        rintro e w1 ⟨rfl, hb1⟩
        go_wp2
        go_ret
        exact ⟨rfl, hb1⟩
      · have h4 : 60 < b.size := by omega
        clear h
        go_enter Tryz.func4, Tryz.ntmps4
        go_wp2_with fail
        refine (HAL.out _).mono ?_
        rintro e w1 ⟨rfl, hb1⟩
        go_wp2
        go_ret
        exact ⟨rfl, hb1⟩
end Go.Proofs.YtkcfbipnhnboaaaGreat
