/- The walk of ShakeKeys. -/
import Derived.Test.YtkcfbipnhnboaaaGreatCj
import Derived.Deep.RegionHeld3
import Derived.Deep.DeepCutAuto

namespace Go.Proofs.YtkcfbipnhnboaaaGreat
open Go.RowKit

theorem papers_ann (an bn : ByteArray) : papersOf annB an bn = ⟨#[1, 3, 97, 110, 110]⟩ ++ an ++ ⟨#[2]⟩ ++ bn := by
  show helloB annB an ++ letterB 2 bn = _
  have h1 : helloB annB an = ⟨#[1, 3, 97, 110, 110]⟩ ++ an := by
    show strOf [1, annB.size] ++ annB ++ an = _
    congr 1
  have h2 : letterB 2 bn = ⟨#[2]⟩ ++ bn := rfl
  rw [h1, h2, ByteArray.append_assoc, ByteArray.append_assoc]
  rw [ByteArray.append_assoc]

/-- What one round of ShakeKeys leans on, of the two nonces. -/
structure KeysR (s an bn : ByteArray) (hlo c2 pm pp ku kd fm : ByteArray) (hm he : HSt) : Prop where
  r1 : ∀ L, gotR L (hostNew bn) hlo 1 = (hm, L, c2, 0)
  r2 : ∀ g, gotR [newRec (annB, s) g] hm pm 1 = (he, updL [newRec (annB, s) g] annB goodR, fm, 0)
  up : he.up = ku
  down : he.down = kd
  hi : hm.got = 1
  hz : hlo.size ≤ 100 ∧ 0 < hlo.size
  cz : c2.size ≤ 100
  pz : pm.size ≤ 1000
  fx : isFixed 2 16 c2 = true
  lo : helloB annB an = hlo
  pf : letterB 3 (proofB s (hlo ++ c2)) = pm
  pe : pp = hlo ++ c2
  keys : upOf s pp = ku ∧ downOf s pp = kd
theorem keysR (s an bn : ByteArray) (hs : userOk annB s = true) (ha : an.size = 16) (hb : bn.size = 16) : ∃ hlo c2 pm ku kd fm hm he, KeysR s an bn hlo c2 pm (⟨#[1, 3, 97, 110, 110]⟩ ++ an ++ ⟨#[2]⟩ ++ bn) ku kd fm hm he := by
  have hok := helloOk_of hs ha
  have hpm := proofB_size s (papersOf annB an bn)
  refine ⟨helloB annB an, letterB 2 bn, letterB 3 (proofB s (papersOf annB an bn)), upOf s (papersOf annB an bn), downOf s (papersOf annB an bn), letterB 4 (finishB s (papersOf annB an bn)), hostMid annB an bn, ⟨bn, 2, false, annB, papersOf annB an bn, true, upOf s (papersOf annB an bn), downOf s (papersOf annB an bn)⟩, ?_⟩
  have hsz := nameOk_size ((userOk_iff annB s).1 hs).1
  refine ⟨fun L => gotR_hello L annB an bn 1 hok, fun g => ?_, rfl, rfl, rfl, ?_, ?_, ?_, isFixed_letter 2 16 bn (by omega) hb, rfl, rfl, (papers_ann an bn).symm, ?_⟩
  · have := gotR_proof [newRec (annB, s) g] annB an bn _ 1 (newRec (annB, s) g) hpm (recOf_one annB s g) (lockedAt_one annB s g 1)
    rw [if_pos (show proofB s (papersOf annB an bn) = proofB (newRec (annB, s) g).secret (papersOf annB an bn) from rfl)] at this
    exact this
  · rw [helloB_size]; omega
  · rw [letterB_size]; omega
  · rw [letterB_size, hpm]; decide
  · rw [← papers_ann]; exact ⟨rfl, rfl⟩

set_option maxHeartbeats 8000000 in
set_option maxRecDepth 100000 in
theorem shakeKeys_main (a b c : ByteArray) (w : World) (ha : a.size ≤ 60) (hb : b.size ≤ 60) (hc : c.size ≤ 60) : Calls Tryz.prog 8 #[.string a, .string b, .string c] w fun e w' => e = .returned (.bool true) ∧ Below w.heap.size w w' := by
  have HAL : Box (∀ W : World, Calls Tryz.prog 12 #[] W fun e w' => e = .returned (.bool true) ∧ Below W.heap.size W w') := ⟨fun W => alive_any W⟩
  have hau := annOk
  have HF : Box (∀ W : World, Calls Tryz.prog 16 #[.string ⟨#[115]⟩, .int .i64 32] W fun e w' => e = .returned (.string (fillB sB 32)) ∧ W = w') := ⟨fun W => fill_any sB 32 W (by omega)⟩
  have hsz := fillB_size sB 32
  obtain ⟨s, hs⟩ : ∃ s, fillB sB 32 = s := ⟨_, rfl⟩
  rw [hs] at hau HF hsz
  have HAU := Box.mk (And.intro hau hsz)
  clear hau hs hsz
  have hq1 : ¬ 60 < a.size := by omega
  have hq2 : ¬ 60 < b.size := by omega
  have hq3 : ¬ 60 < c.size := by omega
  have HL : Box (∀ k, k < 3 → ∃ x y : ByteArray, x.size ≤ 60 ∧ y.size ≤ 60 ∧ nameAt [(a, b), (a, c), (c, b)] k = x ∧ secAt [(a, b), (a, c), (c, b)] k = y) := ⟨fun k hk => by
    obtain rfl | rfl | rfl : k = 0 ∨ k = 1 ∨ k = 2 := by omega
    · exact ⟨a, b, ha, hb, rfl, rfl⟩
    · exact ⟨a, c, ha, hc, rfl, rfl⟩
    · exact ⟨c, b, hc, hb, rfl, rfl⟩⟩
  go_enter Tryz.func8, Tryz.ntmps8
  go_wp2_with fail
  refine (HAL.out _).mono ?_
  rintro e w1 ⟨rfl, hb1⟩
  have H1 := Box.mk hb1
  clear hb1
  go_wp2_with fail
  refine (HF.out _).mono ?_
  rintro e w2 ⟨rfl, rfl⟩
  go_wp2_with fail
  obtain ⟨w2, hw2⟩ : ∃ w2, (w1.alloc (.cells #[.string ⟨#[97, 110, 110]⟩, .string s] 23)).alloc (.cells #[.string a, .string b, .string a, .string c, .string c, .string b] 68) = w2 := ⟨_, rfl⟩
  have hM : Blk w2 w1.heap.size 23 #[.string ⟨#[97, 110, 110]⟩, .string s] := by rw [← hw2]; exact Blk.alloc (Blk.new w1 _) _
  have hT : Blk w2 (w1.heap.size + 1) 68 #[.string a, .string b, .string a, .string c, .string c, .string b] := by rw [← hw2]; exact Blk.new_at _ (by simp)
  have hU : UsersIn w2 (w1.heap.size + 1) [(a, b), (a, c), (c, b)] := by
    intro k hk
    obtain rfl | rfl | rfl : k = 0 ∨ k = 1 ∨ k = 2 := by simp at hk; omega
    · exact ⟨Blk.cell hT 0, Blk.cell hT 1⟩
    · exact ⟨Blk.cell hT 2, Blk.cell hT 3⟩
    · exact ⟨Blk.cell hT 4, Blk.cell hT 5⟩
  have hB : Below w.heap.size w w2 := by rw [← hw2]; exact (H1.out.alloc H1.out.size _).alloc (by simp; have := H1.out.size; omega) _
  have hTl := Blk.lt hT
  have H2 := Box.mk (And.intro hM (And.intro hU (And.intro hB hTl)))
  clear hM hT hU hB hTl
  try rw [hw2]
  obtain ⟨tb, htb⟩ : ∃ tb, w1.heap.size + 1 = tb := ⟨_, rfl⟩
  obtain ⟨mk, hmk⟩ : ∃ mk, w1.heap.size = mk := ⟨_, rfl⟩
  rw [htb, hmk] at H2 ⊢
  clear htb hmk hw2 HAL HF H1
  have hl3 : [(a, b), (a, c), (c, b)].length = 3 := rfl
  generalize hlg : [(a, b), (a, c), (c, b)] = l at *
  clear hlg
  go_loopw [51] (fun i W => ∃ k : Nat, k ≤ 3 ∧ i = .int .i64 (k : Int) ∧ Box (Blk W mk 23 #[.string ⟨#[97, 110, 110]⟩, .string s] ∧ UsersIn W tb l ∧ Below w.heap.size w W ∧ tb < W.heap.size)) (fun i _ => 3 - (intOf i).toNat)
  case atStart => exact ⟨0, by omega, rfl, H2⟩
  case round =>
    obtain ⟨k, hk, rfl, HW⟩ := hrel
    by_cases hk3 : k < 3
    · obtain ⟨x, y, hx, hy, hnx, hny⟩ := HL.out k hk3
      have hcl := HW.out.2.1 k (by omega)
      have c0 : wr.cell? ⟨tb, k * 2, none⟩ = some (.string x) := by rw [← hnx]; exact hcl.1
      have c1 : wr.cell? ⟨tb, k * 2 + 1, none⟩ = some (.string y) := by rw [← hny]; exact hcl.2
      have m0 : wr.cell? ⟨mk, 0, none⟩ = some (.string ⟨#[97, 110, 110]⟩) := Blk.cell HW.out.1 0
      have m1 : wr.cell? ⟨mk, 1, none⟩ = some (.string s) := Blk.cell HW.out.1 1
      have HFX : Box (∀ W : World, Calls Tryz.prog 16 #[.string x, .int .i64 16] W fun e w' => e = .returned (.string (fillB x 16)) ∧ W = w') := ⟨fun W => fill_any x 16 W (by omega)⟩
      have HFY : Box (∀ W : World, Calls Tryz.prog 16 #[.string y, .int .i64 16] W fun e w' => e = .returned (.string (fillB y 16)) ∧ W = w') := ⟨fun W => fill_any y 16 W (by omega)⟩
      have hx16 := fillB_size x 16
      have hy16 := fillB_size y 16
      obtain ⟨an, han⟩ : ∃ an, fillB x 16 = an := ⟨_, rfl⟩
      obtain ⟨bn, hbn⟩ : ∃ bn, fillB y 16 = bn := ⟨_, rfl⟩
      rw [han] at HFX hx16
      rw [hbn] at HFY hy16
      obtain ⟨hlo, c2, pm, ku, kd, fm, hm, he, hKR⟩ := keysR s an bn HAU.out.1 hx16 hy16
      have KR := Box.mk hKR
      have hlz := hKR.hz
      have hcz := hKR.cz
      have hpz := hKR.pz
      have HN : Box (∀ W : World, Below wr.heap.size wr W → Calls Tryz.prog 28 #[.slice (some ⟨W.heap.size, 0, none⟩) 1 1] (W.alloc (.cells #[.string ⟨#[97, 110, 110]⟩, .string s] 23)) fun e w' => ∃ ub g, e = .returned (.tuple #[.pointer (some ⟨ub, 0, none⟩), .int .i64 0]) ∧ Solo wr ub [newRec (annB, s) g] w') := ⟨fun W hW => solo_new hW HAU.out.1⟩
      have HPG : Box (∀ (ub : Nat) (L : List URec) (W : World), Solo wr ub L W → Calls Tryz.prog 13 #[.agg #[.string ⟨#[97, 110, 110]⟩, .string s], .string an] W fun e w' => ∃ g, e = .returned (.pointer (some ⟨g, 0, none⟩)) ∧ PairS wr ub g L (guestC annB s hlo ByteArray.empty 0) w') := ⟨fun ub L W hW => by rw [← KR.out.lo]; exact pair_guest hW HAU.out.1 hx16⟩
      have HCH : Box (∀ (ub g hb : Nat) (L : List URec) (h : HSt) (W : World), Duo wr ub g hb L (guestC annB s hlo ByteArray.empty 0) h W → Calls Tryz.prog 18 #[.pointer (some ⟨g, 0, none⟩), .string c2] W fun e w' => e = .returned (.tuple #[.string pm, .int .i64 0]) ∧ Duo wr ub g hb L (guestC annB s hlo (hlo ++ c2) 1) h w') := ⟨fun ub g hb L h W hD => by
        have := duo_chal hD KR.out.hz.2 (by have := KR.out.hz.1; omega) (by have := HAU.out.2; omega) (by have := KR.out.cz; omega) KR.out.fx
        rw [KR.out.pf] at this
        exact this⟩
      have HKY : Box (∀ W : World, Calls Tryz.prog 23 #[.string s, .string (⟨#[1, 3, 97, 110, 110]⟩ ++ an ++ ⟨#[2]⟩ ++ bn)] W fun e w' => e = .returned (.agg #[.string ku, .string kd]) ∧ Below W.heap.size W w') := ⟨fun W => by
        have hpp : (⟨#[1, 3, 97, 110, 110]⟩ ++ an ++ ⟨#[2]⟩ ++ bn : ByteArray).size ≤ 1000000 := by
          rw [ByteArray.size_append, ByteArray.size_append, ByteArray.size_append, hx16, hy16]; decide
        have := refKeys_any s (⟨#[1, 3, 97, 110, 110]⟩ ++ an ++ ⟨#[2]⟩ ++ bn) W (by have := HAU.out.2; omega) hpp
        rw [KR.out.keys.1, KR.out.keys.2] at this
        exact this⟩
      have HB16 := Box.mk hy16
      have hz1 : an.size ≤ 16 := by omega
      have hz2 : bn.size ≤ 16 := by omega
      clear hnx hny hcl han hbn hx16 hy16 hKR hx hy HL
      go_upto_region 7 with fail
      obtain ⟨w3, hw3⟩ : ∃ w3, wr.alloc (.cells #[.string x, .string y] 68) = w3 := ⟨_, rfl⟩
      have hN3 : Blk w3 wr.heap.size 68 #[.string x, .string y] := by rw [← hw3]; exact Blk.new wr _
      have hb3 : Below wr.heap.size wr w3 := by rw [← hw3]; exact (Below.refl _ _).alloc (Nat.le_refl _) _
      try rw [hw3]
      have H3 := Box.mk hb3
      have n0 : w3.cell? ⟨wr.heap.size, 0, none⟩ = some (.string x) := Blk.cell hN3 0
      have n1 : w3.cell? ⟨wr.heap.size, 1, none⟩ = some (.string y) := Blk.cell hN3 1
      clear hw3 hN3 hb3 c0 c1 m0 m1
      go_quiet ((first
        | (go_at_call_of 16 (Value.string x); exact Calls.quiet_of_same (still_of (HFX.out _)))
        | (go_at_call_of 16 (Value.string y); exact Calls.quiet_of_same (still_of (HFY.out _)))))
      obtain ⟨w4, hw4⟩ : ∃ w4, w4 = w3.drewN nq := ⟨_, rfl⟩
      rw [← hw4]
      have hb4 : Below wr.heap.size wr w4 := by rw [hw4]; exact below_drewN H3.out _
      have m0 : w4.cell? ⟨mk, 0, none⟩ = some (.string ⟨#[97, 110, 110]⟩) := Blk.cell (Blk.below HW.out.1 hb4) 0
      have m1 : w4.cell? ⟨mk, 1, none⟩ = some (.string s) := Blk.cell (Blk.below HW.out.1 hb4) 1
      have H4 := Box.mk hb4
      clear hw4 hb4 n0 n1 H3
      go_wp2_with fail
      refine (HN.out _ H4.out).mono ?_
      rintro e w5 ⟨ub, gu, rfl, hS5⟩
      have m0 : w5.cell? ⟨mk, 0, none⟩ = some (.string ⟨#[97, 110, 110]⟩) := Blk.cell (Blk.below HW.out.1 hS5.bel) 0
      have m1 : w5.cell? ⟨mk, 1, none⟩ = some (.string s) := Blk.cell (Blk.below HW.out.1 hS5.bel) 1
      have H5 := Box.mk hS5
      clear hS5
      go_wp2_with fail
      refine (HPG.out _ _ _ H5.out).mono ?_
      rintro e w6 ⟨g, rfl, hS6⟩
      have H6 := Box.mk hS6
      clear hS6 m0 m1
      go_wp2_with fail
      refine (duo_host H6.out HB16.out).mono ?_
      rintro e w7 ⟨hb, rfl, hS7⟩
      have H7 := Box.mk hS7
      clear hS7
      go_wp2_with fail
      refine (duo_hello H7.out).mono ?_
      rintro e w8 ⟨rfl, rfl⟩
      go_wp2_with fail
      refine (duo_got H7.out (by omega) (Nat.zero_le _) (by decide) (by decide) (KR.out.r1 _)).mono ?_
      rintro e w8 ⟨rfl, hS8⟩
      have H8 := Box.mk hS8
      clear hS8
      go_wp2_with fail
      refine (HCH.out _ _ _ _ _ _ H8.out).mono ?_
      rintro e w9 ⟨rfl, hS9⟩
      have H9 := Box.mk hS9
      clear hS9
      go_wp2_with fail
      refine (duo_got H9.out (by omega) (by rw [KR.out.hi]; decide) (by decide) (by decide) (KR.out.r2 gu)).mono ?_
      rintro e w10 ⟨rfl, hS10⟩
      have m0 : w10.cell? ⟨mk, 0, none⟩ = some (.string ⟨#[97, 110, 110]⟩) := Blk.cell (Blk.below HW.out.1 hS10.bel) 0
      have m1 : w10.cell? ⟨mk, 1, none⟩ = some (.string s) := Blk.cell (Blk.below HW.out.1 hS10.bel) 1
      have H10 := Box.mk hS10
      have HKS : Box (∀ W : World, Below w10.heap.size w10 W → Calls Tryz.prog 33 #[.pointer (some ⟨hb, 0, none⟩)] W fun e w' => e = .returned (.agg #[.string ku, .string kd]) ∧ Below W.heap.size W w') := ⟨fun W hW => by
        have := hKeys_any hb ub _ W (H10.out.below hW).sess.host
        rw [KR.out.up, KR.out.down] at this
        exact this⟩
      clear hS10
      have hq4 : ¬ (9223372036854775807 < 5 + an.size) := by omega
      have hq5 : ¬ (9223372036854775807 < 5 + an.size + 1) := by omega
      have hq6 : ¬ (9223372036854775807 < 5 + an.size + 1 + bn.size) := by omega
      go_upto_region 15 with fail
      go_region_held3 (fun W => W.cell? ⟨mk, 0, none⟩ = some (.string ⟨#[97, 110, 110]⟩) ∧ W.cell? ⟨mk, 1, none⟩ = some (.string s)) (first | exact ⟨Blk.cell (Blk.below (Blk.below HW.out.1 H10.out.bel) HB11.out) 0, Blk.cell (Blk.below (Blk.below HW.out.1 H10.out.bel) HB11.out) 1⟩ | go_keep)
        ((first
          | (go_at_call 33; refine (HKS.out _ (by first | exact HB11.out | exact (Below.refl _ _).drew)).mono ?_; rintro e w12 ⟨rfl, hb12⟩; have HB11 := Box.mk (Below.trans (by first | exact HB11.out | exact (Below.refl w10.heap.size w10).drew) (hb12.mono (by first | exact HB11.out.size | exact Nat.le_refl _))); clear hb12)
          | (go_at_call 23; refine (HKY.out _).mono ?_; rintro e w12 ⟨rfl, hb12⟩; have HB11 := Box.mk (Below.trans (by first | exact HB11.out | exact (Below.refl w10.heap.size w10).drew) (hb12.mono (by first | exact HB11.out.size | exact Nat.le_refl _))); clear hb12)))
      all_goals
        go_wp2
        have hbe := H10.out.bel.trans (HB11.out.mono H10.out.bel.size)
        refine ⟨⟨k + 1, by omega, by go_num, Box.mk (And.intro (Blk.below HW.out.1 hbe) (And.intro (fun i hi => ⟨(hbe.cell (p := ⟨tb, _, none⟩) HW.out.2.2.2).trans (HW.out.2.1 i hi).1, (hbe.cell (p := ⟨tb, _, none⟩) HW.out.2.2.2).trans (HW.out.2.1 i hi).2⟩) (And.intro (HW.out.2.2.1.trans (hbe.mono HW.out.2.2.1.size)) (Nat.lt_of_lt_of_le HW.out.2.2.2 hbe.size))))⟩, by simp [intOf]; omega⟩
    · obtain rfl : k = 3 := by omega
      go_wp2
      go_ret
      exact ⟨rfl, HW.out.2.2.1⟩

set_option maxHeartbeats 2000000 in
set_option maxRecDepth 100000 in
theorem shakeKeys_walk (a b c : ByteArray) (w : World) : Calls Tryz.prog 8 #[.string a, .string b, .string c] w fun e w' => e = .returned (.bool true) ∧ Below w.heap.size w w' := by
  have HAL : Box (∀ W : World, Calls Tryz.prog 12 #[] W fun e w' => e = .returned (.bool true) ∧ Below W.heap.size W w') := ⟨fun W => alive_any W⟩
  by_cases ha : 60 < a.size
  · go_enter Tryz.func8, Tryz.ntmps8
    go_wp2_with fail
    refine (HAL.out _).mono ?_
    rintro e w1 ⟨rfl, hb1⟩
    go_wp2
    go_ret
    exact ⟨rfl, hb1⟩
  · by_cases hb : 60 < b.size
    · go_enter Tryz.func8, Tryz.ntmps8
      go_wp2_with fail
      refine (HAL.out _).mono ?_
      rintro e w1 ⟨rfl, hb1⟩
      go_wp2
      go_ret
      exact ⟨rfl, hb1⟩
    · by_cases hc : 60 < c.size
      · go_enter Tryz.func8, Tryz.ntmps8
        go_wp2_with fail
        refine (HAL.out _).mono ?_
        rintro e w1 ⟨rfl, hb1⟩
        go_wp2
        go_ret
        exact ⟨rfl, hb1⟩
      · exact shakeKeys_main a b c w (by omega) (by omega) (by omega)
end Go.Proofs.YtkcfbipnhnboaaaGreat
