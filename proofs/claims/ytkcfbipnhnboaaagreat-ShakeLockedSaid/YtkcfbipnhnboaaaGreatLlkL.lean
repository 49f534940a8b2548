/- The walk of ShakeLocked. -/
import Derived.Test.YtkcfbipnhnboaaaGreatCh

namespace Go.Proofs.YtkcfbipnhnboaaaGreat
open Go.RowKit

set_option maxHeartbeats 2000000 in
set_option maxRecDepth 100000 in
theorem shakeLocked_main (n : ByteArray) (now later : Int) (w : World) (hn : n.size ≤ 60) (h0 : 0 ≤ now) (h1 : now ≤ 1000000) (h2 : 0 ≤ later) (h3 : later ≤ 60) : Calls Tryz.prog 5 #[.string n, .int .i64 now, .int .i64 later] w fun e w' => e = .returned (.bool true) ∧ Below w.heap.size w w' := by
  have HAL : Box (∀ W : World, Calls Tryz.prog 12 #[] W fun e w' => e = .returned (.bool true) ∧ Below W.heap.size W w') := ⟨fun W => alive_any W⟩
  have HF : Box (∀ W : World, Calls Tryz.prog 16 #[.string ⟨#[115]⟩, .int .i64 32] W fun e w' => e = .returned (.string (fillB sB 32)) ∧ W = w') := ⟨fun W => fill_any sB 32 W (by omega)⟩
  have hs32 := fillB_size sB 32
  obtain ⟨s, hs⟩ : ∃ s, fillB sB 32 = s := ⟨_, rfl⟩
  rw [hs] at hs32 HF
  clear hs
  cases huk : userOk n s with
  | false =>
    have HN : Box (∀ W : World, Calls Tryz.prog 28 #[.slice (some ⟨W.heap.size, 0, none⟩) 1 1] (W.alloc (.cells #[.string n, .string s] 23)) fun e w' => e = .returned (.tuple #[.pointer none, .int .i64 1]) ∧ Below W.heap.size W w') := ⟨fun W => newOne_bad n s W (by omega) huk⟩
    have HU : Box (∀ W : World, Calls Tryz.prog 14 #[.agg #[.string n, .string s]] W fun e w' => e = .returned (.bool false) ∧ Below W.heap.size W w') := ⟨fun W => by rw [← huk]; exact refUser_any n s W (by omega)⟩
    clear huk hs32
    go_enter Tryz.func5, Tryz.ntmps5
    go_wp2_with fail
    refine (HAL.out _).mono ?_
    rintro e w1 ⟨rfl, hb1⟩
    have H1 := Box.mk hb1
    clear hb1
    go_wp2_with fail
    refine (HF.out _).mono ?_
    rintro e w2 ⟨rfl, rfl⟩
    obtain ⟨wm, hwm⟩ : ∃ wm, w1.alloc (.cells #[.string n, .string s] 23) = wm := ⟨_, rfl⟩
    have hM : Blk wm w1.heap.size 23 #[.string n, .string s] := by rw [← hwm]; exact Blk.new w1 _
    have hbm : Below w.heap.size w wm := by rw [← hwm]; exact H1.out.alloc H1.out.size _
    have c0 : wm.cell? ⟨w1.heap.size, 0, none⟩ = some (.string n) := Blk.cell hM 0
    have c1 : wm.cell? ⟨w1.heap.size, 1, none⟩ = some (.string s) := Blk.cell hM 1
    have HM := Box.mk (And.intro hM hbm)
    clear hM hbm
    go_wp2_with fail
    try rw [hwm]
    clear hwm
    refine (HN.out _).mono ?_
    rintro e w3 ⟨rfl, hb3⟩
    have hM3 := Blk.below HM.out.1 hb3
    have d0 : w3.cell? ⟨w1.heap.size, 0, none⟩ = some (.string n) := Blk.cell hM3 0
    have d1 : w3.cell? ⟨w1.heap.size, 1, none⟩ = some (.string s) := Blk.cell hM3 1
    have H3 := Box.mk (HM.out.2.trans (hb3.mono HM.out.2.size))
    clear hb3 hM3
    go_wp2_with fail
    refine (HU.out _).mono ?_
    rintro e w4 ⟨rfl, hb4⟩
    have H4 := Box.mk (H3.out.trans (hb4.mono H3.out.size))
    clear hb4
    go_wp2
    go_ret
    exact ⟨rfl, H4.out⟩
  | true =>
    have HN : Box (∀ W : World, Below w.heap.size w W → Calls Tryz.prog 28 #[.slice (some ⟨W.heap.size, 0, none⟩) 1 1] (W.alloc (.cells #[.string n, .string s] 23)) fun e w' => (∃ ub g, e = .returned (.tuple #[.pointer (some ⟨ub, 0, none⟩), .int .i64 0]) ∧ Solo w ub [newRec (n, s) g] w') ∧ Below W.heap.size W w') := ⟨fun W hW => by
      refine (newOne n s W huk).mono ?_
      rintro e w' ⟨ub, g, rfl, _, hg, hU, hb2⟩
      refine ⟨⟨ub, g, rfl, hU, ?_, ?_, hW.trans (hb2.mono hW.size)⟩, hb2⟩
      · intro r hr
        rw [List.mem_singleton] at hr
        subst hr
        exact Nat.le_trans hW.size hg
      · intro r hr
        rw [List.mem_singleton] at hr
        subst hr
        show s.size ≤ _
        omega⟩
    have hok := helloOk_of huk (show nonceA.size = 16 from rfl)
    have hr1 : ∀ L, gotR L (hostNew nonceZ) (helloB n nonceA) (now + later) = (hostMid n nonceA nonceZ, L, letterB 2 nonceZ, 0) := fun L => gotR_hello L n nonceA nonceZ _ hok
    have hpm := proofB_size s (papersOf n nonceA nonceZ)
    have hlk : ∀ g, lockedAt [lockRec n s g now 3] n (now + later) = decide (later ≤ 20) := fun g => by
      rw [lockedAt, lockRec_rec, lockRec, if_neg (by decide)]
      show (true && decide (now + later ≤ now + 20)) = _
      rw [Bool.true_and]
      by_cases h : later ≤ 20
      · rw [decide_eq_true h, decide_eq_true (by omega)]
      · rw [decide_eq_false h, decide_eq_false (by omega)]
    have hr2 : later ≤ 20 → ∀ g, gotR [lockRec n s g now 3] (hostMid n nonceA nonceZ) (letterB 3 (proofB s (papersOf n nonceA nonceZ))) (now + later) = (⟨nonceZ, 2, true, n, papersOf n nonceA nonceZ, false, ByteArray.empty, ByteArray.empty⟩, [lockRec n s g now 3], ByteArray.empty, 6) := fun h g => gotR_refuse _ n nonceA nonceZ _ _ hpm (.inr (by rw [hlk, decide_eq_true h]))
    have hr3 : ¬ later ≤ 20 → ∀ g, gotR [lockRec n s g now 3] (hostMid n nonceA nonceZ) (letterB 3 (proofB s (papersOf n nonceA nonceZ))) (now + later) = (⟨nonceZ, 2, false, n, papersOf n nonceA nonceZ, true, upOf s (papersOf n nonceA nonceZ), downOf s (papersOf n nonceA nonceZ)⟩, updL [lockRec n s g now 3] n goodR, letterB 4 (finishB s (papersOf n nonceA nonceZ)), 0) := fun h g => by
      have := gotR_proof [lockRec n s g now 3] n nonceA nonceZ _ (now + later) _ hpm (lockRec_rec n s g now 3) (by rw [hlk, decide_eq_false h])
      rw [(lockRec_name n s g now 3).2.1, if_pos rfl] at this
      exact this
    have hf1 := isFixed_letter 2 16 nonceZ (by omega) rfl
    have hhz := helloB_size n nonceA
    have hcz := letterB_size 2 nonceZ
    have hpz := papersOf_size n nonceA nonceZ
    have e2 : nonceA.size = 16 := rfl
    have e3 : nonceZ.size = 16 := rfl
    rw [e2] at hhz
    rw [e3] at hcz
    rw [e2, e3] at hpz
    have hpp : helloB n nonceA ++ letterB 2 nonceZ = papersOf n nonceA nonceZ := rfl
    have hmg : (hostMid n nonceA nonceZ).got = 1 := rfl
    obtain ⟨hlt, hhl⟩ : ∃ hlt, helloB n nonceA = hlt := ⟨_, rfl⟩
    obtain ⟨c, hc⟩ : ∃ c, letterB 2 nonceZ = c := ⟨_, rfl⟩
    obtain ⟨p, hp⟩ : ∃ p, papersOf n nonceA nonceZ = p := ⟨_, rfl⟩
    obtain ⟨hm, hhm⟩ : ∃ hm, hostMid n nonceA nonceZ = hm := ⟨_, rfl⟩
    rw [hhl] at hhz hr1 hpp
    rw [hc] at hcz hr1 hf1 hpp
    rw [hp] at hpm hr2 hr3 hpp hpz
    rw [hhm] at hr1 hr2 hr3 hmg
    obtain ⟨pm, hpm2⟩ : ∃ pm, letterB 3 (proofB s p) = pm := ⟨_, rfl⟩
    have hpmz : pm.size ≤ 1000 := by rw [← hpm2, letterB_size, hpm]; decide
    rw [hpm2] at hr2 hr3
    obtain ⟨fm, hfm2⟩ : ∃ fm, letterB 4 (finishB s p) = fm := ⟨_, rfl⟩
    rw [hfm2] at hr3
    have HPG : Box (∀ (ub : Nat) (L : List URec) (W : World), Solo w ub L W → Calls Tryz.prog 13 #[.agg #[.string n, .string s], .string ⟨#[48, 49, 50, 51, 52, 53, 54, 55, 56, 57, 97, 98, 99, 100, 101, 102]⟩] W fun e w' => ∃ g, e = .returned (.pointer (some ⟨g, 0, none⟩)) ∧ PairS w ub g L (guestC n s hlt ByteArray.empty 0) w') := ⟨fun ub L W hW => by rw [← hhl]; exact pair_guest (a := nonceA) hW huk rfl⟩
    have HPH : Box (∀ (ub g : Nat) (L : List URec) (gc : Array Value) (W : World), PairS w ub g L gc W → Calls Tryz.prog 29 #[.pointer (some ⟨ub, 0, none⟩), .string ⟨#[102, 101, 100, 99, 98, 97, 57, 56, 55, 54, 53, 52, 51, 50, 49, 48]⟩] W fun e w' => ∃ hb, e = .returned (.pointer (some ⟨hb, 0, none⟩)) ∧ Duo w ub g hb L gc (hostNew nonceZ) w') := ⟨fun ub g L gc W hW => duo_host (b := nonceZ) hW rfl⟩
    have HCH : Box (∀ (ub g hb : Nat) (L : List URec) (x : HSt) (W : World), Duo w ub g hb L (guestC n s hlt ByteArray.empty 0) x W → Calls Tryz.prog 18 #[.pointer (some ⟨g, 0, none⟩), .string c] W fun e w' => e = .returned (.tuple #[.string pm, .int .i64 0]) ∧ Duo w ub g hb L (guestC n s hlt p 1) x w') := ⟨fun ub g hb L x W h => by
      have := duo_chal h (by omega) (by omega) (by omega) (by omega) hf1
      rw [hpp, hpm2] at this
      exact this⟩
    have HFI : Box (∀ (ub g hb : Nat) (L : List URec) (x : HSt) (W : World), Duo w ub g hb L (guestC n s hlt p 1) x W → Calls Tryz.prog 22 #[.pointer (some ⟨g, 0, none⟩), .string fm] W fun e w' => e = .returned (.tuple #[.agg #[.string (upOf s p), .string (downOf s p)], .int .i64 0]) ∧ Duo w ub g hb L (guestC n s hlt p 2) x w') := ⟨fun ub g hb L x W h => duo_fin h (by omega) (by omega) (by omega) hfm2⟩
    have HR : Box _ := ⟨And.intro hr1 (And.intro hr2 (And.intro hr3 hmg))⟩
    have hlz : hlt.size ≤ 200 := by omega
    have hlz0 : 0 < hlt.size := by omega
    have hl0 : -9223372036854775808 ≤ now + later := by omega
    have hl1 : now + later ≤ 9223372036854775807 := by omega
    clear huk hok hr1 hr2 hr3 hf1 hpp hhl hc hp hhm hpm2 hpm hhz hcz hmg hlk hpz e2 e3 hfm2 hs32
    go_enter Tryz.func5, Tryz.ntmps5
    go_wp2_with fail
    refine (HAL.out _).mono ?_
    rintro e w1 ⟨rfl, hb1⟩
    have H1 := Box.mk hb1
    clear hb1
    go_wp2_with fail
    refine (HF.out _).mono ?_
    rintro e w2 ⟨rfl, rfl⟩
    obtain ⟨wm, hwm⟩ : ∃ wm, w1.alloc (.cells #[.string n, .string s] 23) = wm := ⟨_, rfl⟩
    have hM : Blk wm w1.heap.size 23 #[.string n, .string s] := by rw [← hwm]; exact Blk.new w1 _
    have hbm : Below w.heap.size w wm := by rw [← hwm]; exact H1.out.alloc H1.out.size _
    have c0 : wm.cell? ⟨w1.heap.size, 0, none⟩ = some (.string n) := Blk.cell hM 0
    have c1 : wm.cell? ⟨w1.heap.size, 1, none⟩ = some (.string s) := Blk.cell hM 1
    have HM := Box.mk (And.intro hM hbm)
    clear hM hbm
    go_wp2_with fail
    try rw [hwm]
    clear hwm
    refine (HN.out _ HM.out.2).mono ?_
    rintro e w3 ⟨⟨ub, gu, rfl, hS3⟩, hb3⟩
    have hM3 := Blk.below HM.out.1 hb3
    have H3 := Box.mk (And.intro hS3 hM3)
    clear hb3 hM3 hS3 c0 c1
    go_wp2_with fail
    go_loopw [10] (fun q wr => ∃ j : Nat, j ≤ 3 ∧ q = .int .i64 (j : Int) ∧ Box (Solo w ub [lockRec n s gu now j] wr ∧ Blk wr w1.heap.size 23 #[.string n, .string s])) (fun q _ => 3 - (intOf q).toNat)
    case atStart => exact ⟨0, by omega, rfl, ⟨by rw [lockRec_zero]; exact H3.out.1, H3.out.2⟩⟩
    case round =>
      obtain ⟨j, hj, rfl, HJ⟩ := hrel
      by_cases hlt3 : j < 3
      · go_wp2_with fail
        refine (solo_fail2 HJ.out.1 (by omega) (by omega) (by omega) (lockRec_rec n s gu now j)).mono ?_
        rintro e w4 ⟨⟨q, rfl⟩, hS4, hg4⟩
        have hM4 := Blk.userSet HJ.out.1.users (List.mem_singleton.2 rfl) HJ.out.2 (by decide) hg4
        rw [lockRec_succ n s gu now j hlt3 h1] at hS4
        have H4 := Box.mk (And.intro hS4 hM4)
        clear hS4 hg4 hM4
        go_wp2
        exact ⟨⟨j + 1, by omega, by go_num, H4⟩, by simp [intOf]; omega⟩
      · obtain rfl : j = 3 := by omega
        have d0 : wr.cell? ⟨w1.heap.size, 0, none⟩ = some (.string n) := Blk.cell HJ.out.2 0
        have d1 : wr.cell? ⟨w1.heap.size, 1, none⟩ = some (.string s) := Blk.cell HJ.out.2 1
        go_wp2_with fail
        refine (HPG.out _ _ _ HJ.out.1).mono ?_
        rintro e w5 ⟨g, rfl, hS5⟩
        have H5 := Box.mk hS5
        clear hS5 d0 d1
        go_wp2_with fail
        refine (HPH.out _ _ _ _ _ H5.out).mono ?_
        rintro e w6 ⟨hb, rfl, hS6⟩
        have H6 := Box.mk hS6
        clear hS6
        go_wp2_with fail
        refine (duo_hello H6.out).mono ?_
        rintro e w7 ⟨rfl, rfl⟩
        go_wp2_with fail
        refine (duo_got H6.out (by omega) (Nat.zero_le _) hl0 hl1 (HR.out.1 _)).mono ?_
        rintro e w7 ⟨rfl, hS7⟩
        have H7 := Box.mk hS7
        clear hS7
        go_wp2_with fail
        refine (HCH.out _ _ _ _ _ _ H7.out).mono ?_
        rintro e w8 ⟨rfl, hS8⟩
        have H8 := Box.mk hS8
        clear hS8
        by_cases h20 : later ≤ 20
        · go_wp2_with fail
          refine (duo_got H8.out (by omega) (by rw [HR.out.2.2.2]; decide) hl0 hl1 (HR.out.2.1 h20 gu)).mono ?_
          rintro e w9 ⟨rfl, hS9⟩
          have H9 := Box.mk hS9
          clear hS9
          go_wp2_with fail
          refine (duo_done H9.out).mono ?_
          rintro e w10 ⟨rfl, rfl⟩
          go_wp2
          go_ret
          exact ⟨rfl, H9.out.bel⟩
        · go_wp2_with fail
          refine (duo_got H8.out (by omega) (by rw [HR.out.2.2.2]; decide) hl0 hl1 (HR.out.2.2.1 h20 gu)).mono ?_
          rintro e w9 ⟨rfl, hS9⟩
          have H9 := Box.mk hS9
          clear hS9
          go_wp2_with fail
          refine (HFI.out _ _ _ _ _ _ H9.out).mono ?_
          rintro e w10 ⟨rfl, hS10⟩
          have H10 := Box.mk hS10
          clear hS10
          go_wp2_with fail
          refine (duo_done (H10.out.below ((Below.refl _ _).alloc (Nat.le_refl _) _))).mono ?_
          rintro e w11 ⟨rfl, rfl⟩
          go_wp2
          go_ret
          exact ⟨rfl, H10.out.bel.alloc H10.out.bel.size _⟩

set_option maxHeartbeats 2000000 in
set_option maxRecDepth 100000 in
theorem shakeLocked_walk (n : ByteArray) (now later : Int) (w : World) : Calls Tryz.prog 5 #[.string n, .int .i64 now, .int .i64 later] w fun e w' => e = .returned (.bool true) ∧ Below w.heap.size w w' := by
  have HAL : Box (∀ W : World, Calls Tryz.prog 12 #[] W fun e w' => e = .returned (.bool true) ∧ Below W.heap.size W w') := ⟨fun W => alive_any W⟩
  by_cases h1 : 60 < n.size
  · go_enter Tryz.func5, Tryz.ntmps5
    go_wp2_with fail
    refine (HAL.out _).mono ?_
    rintro e w1 ⟨rfl, hb1⟩
    go_wp2
    go_ret
    exact ⟨rfl, hb1⟩
  · by_cases h2 : now < 0
    · go_enter Tryz.func5, Tryz.ntmps5
      go_wp2_with fail
      refine (HAL.out _).mono ?_
      rintro e w1 ⟨rfl, hb1⟩
      go_wp2
      go_ret
      exact ⟨rfl, hb1⟩
    · by_cases h3 : 1000000 < now
      · go_enter Tryz.func5, Tryz.ntmps5
        go_wp2_with fail
        refine (HAL.out _).mono ?_
        rintro e w1 ⟨rfl, hb1⟩
        go_wp2
        go_ret
        exact ⟨rfl, hb1⟩
      · by_cases h4 : later < 0
        · go_enter Tryz.func5, Tryz.ntmps5
          go_wp2_with fail
          refine (HAL.out _).mono ?_
          rintro e w1 ⟨rfl, hb1⟩
          go_wp2
          go_ret
          exact ⟨rfl, hb1⟩
        · by_cases h5 : 60 < later
          · go_enter Tryz.func5, Tryz.ntmps5
            go_wp2_with fail
            refine (HAL.out _).mono ?_
            rintro e w1 ⟨rfl, hb1⟩
            go_wp2
            go_ret
            exact ⟨rfl, hb1⟩
          · exact shakeLocked_main n now later w (by omega) (by omega) (by omega) (by omega) (by omega)
end Go.Proofs.YtkcfbipnhnboaaaGreat
