/- The walk of ShakeStranger. -/
import Derived.Test.YtkcfbipnhnboaaaGreatCg

namespace Go.Proofs.YtkcfbipnhnboaaaGreat
open Go.RowKit

theorem recOf_other {u s n : ByteArray} {g : Nat} (h : ¬ n = u) : recOf [newRec (u, s) g] n = none := by
  rw [recOf, List.find?_cons, show decide ((newRec (u, s) g).name = n) = false from decide_eq_false (fun e => h e.symm)]
  rfl
theorem byteArr_list {a : ByteArray} {l : Array UInt8} (h : a.toList = l.toList) : a = ⟨l⟩ := by
  rw [ByteArray.toList_eq] at h
  exact ByteArray.ext (Array.ext' h)

set_option maxHeartbeats 2000000 in
set_option maxRecDepth 100000 in
theorem shakeStranger_main (n s0 a b : ByteArray) (w : World) (hnk : nameOk n = true) (hann : ¬ n = annB) (ha : a.size ≤ 60) (hb : b.size ≤ 60) : Calls Tryz.prog 6 #[.string n, .string s0, .string a, .string b] w fun e w' => e = .returned (.bool true) ∧ Below w.heap.size w w' := by
  have HAL : Box (∀ W : World, Calls Tryz.prog 12 #[] W fun e w' => e = .returned (.bool true) ∧ Below W.heap.size W w') := ⟨fun W => alive_any W⟩
  have hns := nameOk_size hnk
  have HNM : Box (∀ W : World, Calls Tryz.prog 35 #[.string n] W fun e w' => e = .returned (.bool true) ∧ W = w') := ⟨fun W => by rw [← hnk]; exact refName_any n W (by omega)⟩
  have hl : ¬ n.toList = [97, 110, 110] := fun e => hann (byteArr_list (l := #[97, 110, 110]) e)
  have hlb : (n.toList == [97, 110, 110]) = false := by simp [hl]
  have hau := annOk
  have HF : Box (∀ W : World, Calls Tryz.prog 16 #[.string ⟨#[115]⟩, .int .i64 32] W fun e w' => e = .returned (.string (fillB sB 32)) ∧ W = w') := ⟨fun W => fill_any sB 32 W (by omega)⟩
  have HFA : Box (∀ W : World, Calls Tryz.prog 16 #[.string a, .int .i64 16] W fun e w' => e = .returned (.string (fillB a 16)) ∧ W = w') := ⟨fun W => fill_any a 16 W (by omega)⟩
  have HFB : Box (∀ W : World, Calls Tryz.prog 16 #[.string b, .int .i64 16] W fun e w' => e = .returned (.string (fillB b 16)) ∧ W = w') := ⟨fun W => fill_any b 16 W (by omega)⟩
  have HFS : Box (∀ W : World, Calls Tryz.prog 16 #[.string s0, .int .i64 32] W fun e w' => e = .returned (.string (fillB s0 32)) ∧ W = w') := ⟨fun W => fill_any s0 32 W (by omega)⟩
  have ha16 := fillB_size a 16
  have hb16 := fillB_size b 16
  have hs32 := fillB_size s0 32
  obtain ⟨s, hs⟩ : ∃ s, fillB sB 32 = s := ⟨_, rfl⟩
  obtain ⟨sn, hsn⟩ : ∃ sn, fillB s0 32 = sn := ⟨_, rfl⟩
  obtain ⟨an, han⟩ : ∃ an, fillB a 16 = an := ⟨_, rfl⟩
  obtain ⟨bn, hbn⟩ : ∃ bn, fillB b 16 = bn := ⟨_, rfl⟩
  rw [hs] at hau HF
  rw [hsn] at HFS hs32
  rw [han] at HFA ha16
  rw [hbn] at HFB hb16
  have hun : userOk n sn = true := (userOk_iff n sn).2 ⟨hnk, hs32⟩
  have HN : Box (∀ W : World, Below w.heap.size w W → Calls Tryz.prog 28 #[.slice (some ⟨W.heap.size, 0, none⟩) 1 1] (W.alloc (.cells #[.string ⟨#[97, 110, 110]⟩, .string s] 23)) fun e w' => ∃ ub g, e = .returned (.tuple #[.pointer (some ⟨ub, 0, none⟩), .int .i64 0]) ∧ Solo w ub [newRec (annB, s) g] w') := ⟨fun W hW => solo_new hW hau⟩
  have hok := helloOk_of hun ha16
  have hr1 : ∀ L, gotR L (hostNew bn) (helloB n an) 1 = (hostMid n an bn, L, letterB 2 bn, 0) := fun L => gotR_hello L n an bn 1 hok
  have hpm := proofB_size sn (papersOf n an bn)
  have hr2 : ∀ g, gotR [newRec (annB, s) g] (hostMid n an bn) (letterB 3 (proofB sn (papersOf n an bn))) 1 = (⟨bn, 2, true, n, papersOf n an bn, false, ByteArray.empty, ByteArray.empty⟩, [newRec (annB, s) g], ByteArray.empty, 6) := fun g => gotR_refuse _ n an bn _ 1 hpm (.inl (recOf_other hann))
  have hr3 : ∀ L, gotR L ⟨bn, 2, true, n, papersOf n an bn, false, ByteArray.empty, ByteArray.empty⟩ (letterB 3 (proofB sn (papersOf n an bn))) 1 = (⟨bn, 2, true, n, papersOf n an bn, false, ByteArray.empty, ByteArray.empty⟩, L, ByteArray.empty, 7) := fun L => gotR_over L _ _ 1 (.inl rfl)
  have hf1 := isFixed_letter 2 16 bn (by omega) hb16
  have hhz := helloB_size n an
  have hcz := letterB_size 2 bn
  have hpp : helloB n an ++ letterB 2 bn = papersOf n an bn := rfl
  have hcb : letterB 2 bn = ⟨#[2]⟩ ++ bn := rfl
  have hmg : (hostMid n an bn).got = 1 := rfl
  obtain ⟨hlt, hhl⟩ : ∃ hlt, helloB n an = hlt := ⟨_, rfl⟩
  obtain ⟨c, hc⟩ : ∃ c, letterB 2 bn = c := ⟨_, rfl⟩
  obtain ⟨p, hp⟩ : ∃ p, papersOf n an bn = p := ⟨_, rfl⟩
  obtain ⟨hm, hhm⟩ : ∃ hm, hostMid n an bn = hm := ⟨_, rfl⟩
  rw [hhl] at hhz hr1 hpp
  rw [hc] at hcz hr1 hf1 hpp hcb
  rw [hp] at hpm hr2 hr3 hpp
  rw [hhm] at hr1 hr2 hmg
  obtain ⟨pm, hpm2⟩ : ∃ pm, letterB 3 (proofB sn p) = pm := ⟨_, rfl⟩
  have hpmz : pm.size ≤ 1000 := by rw [← hpm2, letterB_size, hpm]; decide
  rw [hpm2] at hr2 hr3
  have HPG : Box (∀ (ub : Nat) (L : List URec) (W : World), Solo w ub L W → Calls Tryz.prog 13 #[.agg #[.string n, .string sn], .string an] W fun e w' => ∃ g, e = .returned (.pointer (some ⟨g, 0, none⟩)) ∧ PairS w ub g L (guestC n sn hlt ByteArray.empty 0) w') := ⟨fun ub L W hW => by rw [← hhl]; exact pair_guest hW hun ha16⟩
  have HCH : Box (∀ (ub g hb : Nat) (L : List URec) (x : HSt) (W : World), Duo w ub g hb L (guestC n sn hlt ByteArray.empty 0) x W → Calls Tryz.prog 18 #[.pointer (some ⟨g, 0, none⟩), .string c] W fun e w' => e = .returned (.tuple #[.string pm, .int .i64 0]) ∧ Duo w ub g hb L (guestC n sn hlt p 1) x w') := ⟨fun ub g hb L x W h => by
    have := duo_chal h (by omega) (by omega) (by omega) (by omega) hf1
    rw [hpp, hpm2] at this
    exact this⟩
  have HR : Box _ := ⟨And.intro hr1 (And.intro hr2 (And.intro hr3 (And.intro hmg (And.intro hcb hb16))))⟩
  have hlz : hlt.size ≤ 100 := by omega
  have hbz : bn.size ≤ 16 := by omega
  have hcc : ¬ (9223372036854775807 < 1 + bn.size) := by omega
  clear hnk hann hau hs hsn han hbn hun hok hr1 hr2 hr3 hf1 hpp hhl hc hp hhm hpm2 hpm hhz hcz ha16 hb16 hs32 hcb hmg
  go_enter Tryz.func6, Tryz.ntmps6
  go_wp2_with fail
  refine (HNM.out _).mono ?_
  rintro e w1 ⟨rfl, rfl⟩
  go_wp2_with fail
  refine (HAL.out _).mono ?_
  rintro e w1 ⟨rfl, hb1⟩
  have H1 := Box.mk hb1
  clear hb1
  go_wp2_with fail
  refine (HF.out _).mono ?_
  rintro e w2 ⟨rfl, rfl⟩
  go_wp2_with fail
  refine (HN.out _ H1.out).mono ?_
  rintro e w2 ⟨ub, gu, rfl, hS2⟩
  have H2 := Box.mk hS2
  clear hS2
  go_wp2_with fail
  refine (HFA.out _).mono ?_
  rintro e w3 ⟨rfl, rfl⟩
  go_wp2_with fail
  refine (HFB.out _).mono ?_
  rintro e w3 ⟨rfl, rfl⟩
  go_wp2_with fail
  refine (HFS.out _).mono ?_
  rintro e w3 ⟨rfl, rfl⟩
  go_wp2_with fail
  refine (HPG.out _ _ _ H2.out).mono ?_
  rintro e w3 ⟨g, rfl, hS3⟩
  have H3 := Box.mk hS3
  clear hS3
  go_wp2_with fail
  refine (duo_host H3.out HR.out.2.2.2.2.2).mono ?_
  rintro e w4 ⟨hb, rfl, hS4⟩
  have H4 := Box.mk hS4
  clear hS4
  go_wp2_with fail
  refine (duo_hello H4.out).mono ?_
  rintro e w5 ⟨rfl, rfl⟩
  go_wp2_with fail
  refine (duo_got H4.out (by omega) (Nat.zero_le _) (by decide) (by decide) (HR.out.1 _)).mono ?_
  rintro e w5 ⟨rfl, hS5⟩
  have H5 := Box.mk hS5
  clear hS5
  go_wp2_with fail
  refine (HCH.out _ _ _ _ _ _ H5.out).mono ?_
  rintro e w6 ⟨rfl, hS6⟩
  have H6 := Box.mk hS6
  clear hS6
  go_wp2_with fail
  refine (duo_got H6.out (by omega) (by rw [HR.out.2.2.2.1]; decide) (by decide) (by decide) (HR.out.2.1 gu)).mono ?_
  rintro e w7 ⟨rfl, hS7⟩
  have H7 := Box.mk hS7
  clear hS7
  go_wp2_with fail
  refine (duo_got H7.out (by omega) (show 2 ≤ 999999 by decide) (by decide) (by decide) (HR.out.2.2.1 _)).mono ?_
  rintro e w8 ⟨rfl, hS8⟩
  have H8 := Box.mk hS8
  clear hS8
  have hcq : ∀ (x : ByteArray), x = ⟨#[2]⟩ ++ bn → (c.toList == x.toList) = true := fun x hx => by rw [HR.out.2.2.2.2.1, hx]; simp
  have hcq1 := hcq _ rfl
  clear hcq
  go_wp2_with fail
  refine (duo_done H8.out).mono ?_
  rintro e w9 ⟨rfl, rfl⟩
  go_wp2_with fail
  refine (duo_keys H8.out).mono ?_
  rintro e w9 ⟨rfl, hS9⟩
  have H9 := Box.mk hS9
  clear hS9
  go_wp2
  go_ret
  exact ⟨rfl, H9.out.bel⟩

set_option maxHeartbeats 2000000 in
set_option maxRecDepth 100000 in
theorem shakeStranger_walk (n s0 a b : ByteArray) (w0 : n.size ≤ maxLen) (w : World) : Calls Tryz.prog 6 #[.string n, .string s0, .string a, .string b] w fun e w' => e = .returned (.bool true) ∧ Below w.heap.size w w' := by
  have HAL : Box (∀ W : World, Calls Tryz.prog 12 #[] W fun e w' => e = .returned (.bool true) ∧ Below W.heap.size W w') := ⟨fun W => alive_any W⟩
  have HNM : Box (∀ W : World, Calls Tryz.prog 35 #[.string n] W fun e w' => e = .returned (.bool (nameOk n)) ∧ W = w') := ⟨fun W => refName_big n W w0⟩
  obtain ⟨nk, hnk⟩ : ∃ nk, nameOk n = nk := ⟨_, rfl⟩
  rw [hnk] at HNM
  clear w0
  cases nk with
  | false =>
    go_enter Tryz.func6, Tryz.ntmps6
    go_wp2_with fail
    refine (HNM.out _).mono ?_
    rintro e w1 ⟨rfl, rfl⟩
    go_wp2_with fail
    refine (HAL.out _).mono ?_
    rintro e w1 ⟨rfl, hb1⟩
    go_wp2
    go_ret
    exact ⟨rfl, hb1⟩
  | true =>
    by_cases hann : n = annB
    · have hl : n.toList = [97, 110, 110] := by rw [ByteArray.toList_eq, hann]; rfl
      have hlb : (n.toList == [97, 110, 110]) = true := by rw [hl]; rfl
      clear hann
      go_enter Tryz.func6, Tryz.ntmps6
      go_wp2_with fail
      refine (HNM.out _).mono ?_
      rintro e w1 ⟨rfl, rfl⟩
      go_wp2_with fail
      refine (HAL.out _).mono ?_
      rintro e w1 ⟨rfl, hb1⟩
      go_wp2
      go_ret
      exact ⟨rfl, hb1⟩
    · have hl : ¬ n.toList = [97, 110, 110] := fun e => hann (byteArr_list (l := #[97, 110, 110]) e)
      have hlb : (n.toList == [97, 110, 110]) = false := by simp [hl]
      by_cases ha : 60 < a.size
      · go_enter Tryz.func6, Tryz.ntmps6
        go_wp2_with fail
        refine (HNM.out _).mono ?_
        rintro e w1 ⟨rfl, rfl⟩
        go_wp2_with fail
        refine (HAL.out _).mono ?_
        rintro e w1 ⟨rfl, hb1⟩
        go_wp2
        go_ret
        exact ⟨rfl, hb1⟩
      · by_cases hb : 60 < b.size
        · go_enter Tryz.func6, Tryz.ntmps6
          go_wp2_with fail
          refine (HNM.out _).mono ?_
          rintro e w1 ⟨rfl, rfl⟩
          go_wp2_with fail
          refine (HAL.out _).mono ?_
          rintro e w1 ⟨rfl, hb1⟩
          go_wp2
          go_ret
          exact ⟨rfl, hb1⟩
        · exact shakeStranger_main n s0 a b w hnk hann (by omega) (by omega)
end Go.Proofs.YtkcfbipnhnboaaaGreat
