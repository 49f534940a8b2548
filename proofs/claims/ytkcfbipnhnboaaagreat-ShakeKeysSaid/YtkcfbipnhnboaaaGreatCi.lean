/- law14.Tidy: users out of raw ones. ref14.Users: may they be? Call by call, with another block that stays; users out of a list. A list of users that came in, opened: its cells as a list of pairs. Plain. -/
import Derived.Test.YtkcfbipnhnboaaaGreatCh
import Derived.Deep.SlicePairs

namespace Go.Proofs.YtkcfbipnhnboaaaGreat
open Go.RowKit

/-- The cells of users. -/
def userVals (l : List (ByteArray × ByteArray)) : List Value := l.flatMap fun p => [.string p.1, .string p.2]
theorem userVals_length (l : List (ByteArray × ByteArray)) : (userVals l).length = l.length * 2 := by
  induction l with
  | nil => rfl
  | cons p l ih => rw [userVals, List.flatMap_cons, List.length_append, ← userVals, ih]; simp; omega
theorem userVals_app (l l' : List (ByteArray × ByteArray)) : userVals (l ++ l') = userVals l ++ userVals l' := by simp [userVals]
theorem userVals_get (l : List (ByteArray × ByteArray)) : ∀ i, i < l.length → (userVals l)[i * 2]? = some (.string (l.getD i (ByteArray.empty, ByteArray.empty)).1) ∧ (userVals l)[i * 2 + 1]? = some (.string (l.getD i (ByteArray.empty, ByteArray.empty)).2) := by
  induction l with
  | nil => intro i hi; exact absurd hi (Nat.not_lt_zero _)
  | cons p l ih =>
    intro i hi
    cases i with
    | zero => exact ⟨rfl, rfl⟩
    | succ i =>
      have := ih i (by simpa using hi)
      rw [show (i + 1) * 2 = i * 2 + 2 from by omega]
      exact this
def tidyL (l : List (ByteArray × ByteArray)) : List (ByteArray × ByteArray) := l.map fun p => (p.1, fillB p.2 32)
/-- A slice's cells, at an offset, are these users. -/
def UsersFrom (w : World) (b o : Nat) (l : List (ByteArray × ByteArray)) : Prop := ∀ i, i < l.length → w.cell? ⟨b, o + i * 2, none⟩ = some (.string (l.getD i (ByteArray.empty, ByteArray.empty)).1) ∧ w.cell? ⟨b, o + (i * 2 + 1), none⟩ = some (.string (l.getD i (ByteArray.empty, ByteArray.empty)).2)
theorem info_user : (Tryz.prog.info? 23).map (fun i => (i.zero, i.size, i.bytes)) = some (some (.agg #[.string ⟨#[]⟩, .string ⟨#[]⟩]), 2, 32) := by kernel_rfl
theorem news_two (W : World) (x y : Value) (t : TypeId) : ∀ j u, [x, y][j]? = some u → (W.alloc (.cells #[x, y] t)).cell? ((⟨W.heap.size, 0, none⟩ : Addr).add j) = some u := by
  intro j u hj
  match j, hj with
  | 0, hj => simp at hj; subst hj; exact Blk.cell (Blk.new W _) 0
  | 1, hj => simp at hj; subst hj; exact Blk.cell (Blk.new W _) 1

set_option maxHeartbeats 2000000 in
set_option maxRecDepth 100000 in
theorem tidy_some (b o c : Nat) (l : List (ByteArray × ByteArray)) (w : World) (hl : l.length ≤ 1000) (hbl : b < w.heap.size) (hI : UsersFrom w b o l) : Calls Tryz.prog 26 #[.slice (some ⟨b, o, none⟩) l.length c] w fun e w' => ∃ v, e = .returned v ∧ w'.ownsRow w.heap.size 23 2 v l.length (userVals (tidyL l)) ∧ Below w.heap.size w w' := by
  obtain ⟨n, hn⟩ : ∃ n, l.length = n := ⟨_, rfl⟩
  rw [hn] at hl ⊢
  have HL : Box _ := ⟨And.intro hn hI⟩
  clear hn hI
  go_enter Tryz.func26, Tryz.ntmps26
  go_wp2
  go_loopw [3, 4] (fun x i wr => ∃ k : Nat, k ≤ n ∧ i = .int .i64 (k : Int) ∧ wr.ownsRow w.heap.size 23 2 x k (userVals (tidyL (l.take k))) ∧ Below w.heap.size w wr) (fun _ i _ => n - (intOf i).toNat)
  case atStart => exact ⟨0, Nat.zero_le _, rfl, own_nil _ _ _ _, Below.refl _ _⟩
  case round =>
    obtain ⟨k, hk, rfl, hown, hb⟩ := hrel
    obtain ⟨A, r, rfl⟩ := own_slice hown
    by_cases hlt : k < n
    · have hci := HL.out.2 k (by rw [HL.out.1]; exact hlt)
      obtain ⟨p, hp⟩ : ∃ p, l.getD k (ByteArray.empty, ByteArray.empty) = p := ⟨_, rfl⟩
      rw [hp] at hci
      obtain ⟨u, s⟩ := p
      have c0 : wr.cell? ⟨b, o + k * 2, none⟩ = some (.string u) := (hb.cell (p := ⟨b, o + k * 2, none⟩) hbl).trans hci.1
      have c1 : wr.cell? ⟨b, o + (k * 2 + 1), none⟩ = some (.string s) := (hb.cell (p := ⟨b, o + (k * 2 + 1), none⟩) hbl).trans hci.2
      have c1' : wr.cell? ⟨b, o + k * 2 + 1, none⟩ = some (.string s) := c1
      have HF : Box (∀ W : World, Calls Tryz.prog 16 #[.string s, .int .i64 32] W fun e w' => e = .returned (.string (fillB s 32)) ∧ W = w') := ⟨fun W => fill_any s 32 W (by omega)⟩
      obtain ⟨sf, hsf⟩ : ∃ sf, fillB s 32 = sf := ⟨_, rfl⟩
      rw [hsf] at HF
      have HP : Box _ := ⟨And.intro hp hsf⟩
      have HO : Box _ := ⟨And.intro hown hb⟩
      have hbz := hb.size
      clear hp hsf hci hown hb
      go_upto_region 5 with fail
      go_region_law (first | (go_simp; go_at_call 16; refine (HF.out _).mono ?_; rintro e w6 ⟨rfl, rfl⟩) | (refine step_append_own rfl (.tmp 11) (.tmp 24) 50 rfl w.heap.size 23 (.agg #[.string ⟨#[]⟩, .string ⟨#[]⟩]) 2 32 Tryz.underlying50 info_user rfl (by decide) (.slice A k r) k _ (by simp [Act.eval]) (by first | exact HO.out.1.drew.alloc _ | exact HO.out.1.alloc _) ⟨wr.heap.size, 0, none⟩ 1 1 [.string u, .string sf] (by simp [Act.eval]) rfl (by first | exact news_two wr.drew _ _ _ | exact news_two wr _ _ _) (by intro x hx; simp at hx; rcases hx with rfl | rfl <;> rfl) (by omega) (by decide) (by simp; omega) ?_; intro v1 w1 hown1 hg1; obtain ⟨A1, r1, rfl⟩ := own_slice hown1; have H1 := Box.mk (And.intro hown1 hg1); clear hown1 hg1))
      all_goals
        go_wp2
        have hbel1 : Below w.heap.size w w1 := ((HO.out.2.drew.alloc (by show w.heap.size ≤ wr.heap.size; exact hbz) (.cells #[.string u, .string sf] 23)).grown H1.out.2 (by simp; omega) (fun g hg => own_base HO.out.1 g hg))
        refine ⟨⟨k + 1, by omega, by go_num, ?_, hbel1⟩, by simp [intOf]; omega⟩
        have hkl : k < l.length := by rw [HL.out.1]; exact hlt
        have hgk : l[k] = (u, s) := by
          have := HP.out.1
          rw [List.getD_eq_getElem?_getD, List.getElem?_eq_getElem hkl] at this
          exact this
        rw [List.take_succ_eq_append_getElem hkl, hgk, tidyL, List.map_append, userVals_app]
        show World.ownsRow _ _ _ _ _ _ (userVals (tidyL (l.take k)) ++ [.string u, .string (fillB s 32)])
        rw [HP.out.2]
        exact H1.out.1
    · obtain rfl : k = n := by omega
      have hbz := hb.size
      have HO : Box _ := ⟨And.intro hown hb⟩
      clear hown hb
      go_wp2
      go_ret
      refine ⟨_, rfl, ?_, HO.out.2⟩
      have := HO.out.1
      rw [List.take_of_length_le (by rw [HL.out.1]; exact Nat.le_refl _)] at this
      exact this
end Go.Proofs.YtkcfbipnhnboaaaGreat

namespace Go.Proofs.YtkcfbipnhnboaaaGreat
open Go.RowKit

def nameAt (l : List (ByteArray × ByteArray)) (i : Nat) : ByteArray := (l.getD i (ByteArray.empty, ByteArray.empty)).1
def secAt (l : List (ByteArray × ByteArray)) (i : Nat) : ByteArray := (l.getD i (ByteArray.empty, ByteArray.empty)).2
def diffTo (l : List (ByteArray × ByteArray)) (i k : Nat) : Bool := (List.range k).all fun j => !decide (nameAt l j = nameAt l i)
def goodAt (l : List (ByteArray × ByteArray)) (i : Nat) : Bool := userOk (nameAt l i) (secAt l i) && diffTo l i i
def goodTo (l : List (ByteArray × ByteArray)) (i : Nat) : Bool := (List.range i).all (goodAt l)
def usersOkB (l : List (ByteArray × ByteArray)) : Bool := goodTo l l.length && decide (l.length ≤ 20)
theorem diffTo_succ (l : List (ByteArray × ByteArray)) (i k : Nat) : diffTo l i (k + 1) = (diffTo l i k && !decide (nameAt l k = nameAt l i)) := by simp [diffTo, List.range_succ]
theorem goodTo_succ (l : List (ByteArray × ByteArray)) (i : Nat) : goodTo l (i + 1) = (goodTo l i && goodAt l i) := by simp [goodTo, List.range_succ]
theorem goodTo_bad (l : List (ByteArray × ByteArray)) (i n : Nat) (h : i < n) (hb : goodAt l i = false) : goodTo l n = false := by
  rw [goodTo, List.all_eq_false]
  exact ⟨i, List.mem_range.2 h, by simp [hb]⟩
theorem diffTo_bad (l : List (ByteArray × ByteArray)) (i k : Nat) (h : k < i) (hb : nameAt l k = nameAt l i) : diffTo l i i = false := by
  rw [diffTo, List.all_eq_false]
  exact ⟨k, List.mem_range.2 h, by simp [hb]⟩
theorem usersOkB_iff (l : List (ByteArray × ByteArray)) : usersOkB l = true ↔ UsersOk l := by
  have hnm : ∀ i, (h : i < l.length) → nameAt l i = l[i].1 ∧ secAt l i = l[i].2 := by
    intro i h
    rw [nameAt, secAt, List.getD_eq_getElem?_getD, List.getElem?_eq_getElem h]
    exact ⟨rfl, rfl⟩
  rw [usersOkB, Bool.and_eq_true, decide_eq_true_iff, goodTo, List.all_eq_true]
  constructor
  · rintro ⟨h1, h2⟩
    refine ⟨h2, ?_, ?_⟩
    · intro p hp
      obtain ⟨i, hi, rfl⟩ := List.mem_iff_getElem.1 hp
      have := h1 i (List.mem_range.2 hi)
      rw [goodAt, Bool.and_eq_true, (hnm i hi).1, (hnm i hi).2] at this
      exact this.1
    · refine List.pairwise_iff_getElem.2 ?_
      intro i j hi hj hij
      rw [List.length_map] at hi hj
      have := h1 j (List.mem_range.2 hj)
      rw [goodAt, Bool.and_eq_true, diffTo, List.all_eq_true] at this
      have h3 := this.2 i (List.mem_range.2 hij)
      rw [(hnm i hi).1, (hnm j hj).1] at h3
      rw [List.getElem_map, List.getElem_map]
      simpa using h3
  · rintro ⟨h1, h2, h3⟩
    refine ⟨?_, h1⟩
    intro i hi
    rw [List.mem_range] at hi
    rw [goodAt, Bool.and_eq_true, (hnm i hi).1, (hnm i hi).2]
    refine ⟨h2 _ (List.getElem_mem hi), ?_⟩
    rw [diffTo, List.all_eq_true]
    intro k hk
    rw [List.mem_range] at hk
    have := List.pairwise_iff_getElem.1 h3 k i (by rw [List.length_map]; omega) (by rw [List.length_map]; exact hi) hk
    rw [List.getElem_map, List.getElem_map] at this
    rw [(hnm k (by omega)).1, (hnm i hi).1]
    simpa using this

set_option maxHeartbeats 2000000 in
set_option maxRecDepth 100000 in
theorem refUsers_some (b c : Nat) (l : List (ByteArray × ByteArray)) (w : World) (hl : l.length ≤ 1000) (hbl : b < w.heap.size) (hI : UsersIn w b l) (hz : ∀ p ∈ l, p.1.size ≤ maxLen) : Calls Tryz.prog 27 #[.slice (some ⟨b, 0, none⟩) l.length c] w fun e w' => e = .returned (.bool (usersOkB l)) ∧ Below w.heap.size w w' := by
  obtain ⟨n, hn⟩ : ∃ n, l.length = n := ⟨_, rfl⟩
  have hzn : ∀ i, i < n → (nameAt l i).size ≤ maxLen := by
    intro i hi
    rw [nameAt, List.getD_eq_getElem?_getD, List.getElem?_eq_getElem (by omega)]
    exact hz _ (List.getElem_mem _)
  have hI2 : ∀ i, i < n → w.cell? ⟨b, i * 2, none⟩ = some (.string (nameAt l i)) ∧ w.cell? ⟨b, i * 2 + 1, none⟩ = some (.string (secAt l i)) := fun i hi => hI i (by omega)
  have huo : usersOkB l = (goodTo l n && decide (n ≤ 20)) := by rw [usersOkB, hn]
  rw [huo]
  rw [hn] at hl ⊢
  have HL : Box _ := ⟨And.intro hI2 hzn⟩
  clear hn hI hz hI2 hzn huo
  obtain ⟨res, hres⟩ : ∃ res, (goodTo l n && decide (n ≤ 20)) = res := ⟨_, rfl⟩
  rw [hres]
  have HR : Box _ := ⟨hres⟩
  clear hres
  go_enter Tryz.func27, Tryz.ntmps27
  go_wp2
  go_loopw [3] (fun i wr => ∃ k : Nat, k ≤ n ∧ i = .int .i64 (k : Int) ∧ Box (goodTo l k = true ∧ Below w.heap.size w wr)) (fun i _ => n - (intOf i).toNat)
  case atStart => exact ⟨0, Nat.zero_le _, rfl, ⟨rfl, Below.refl _ _⟩⟩
  case round =>
    obtain ⟨i, hi, rfl, HJ⟩ := hrel
    by_cases hlt : i < n
    · have hc := HL.out.1 i hlt
      have hzz := HL.out.2 i hlt
      obtain ⟨u, hu⟩ : ∃ u, nameAt l i = u := ⟨_, rfl⟩
      obtain ⟨s, hs⟩ : ∃ s, secAt l i = s := ⟨_, rfl⟩
      rw [hu, hs] at hc
      rw [hu] at hzz
      have c0 : wr.cell? ⟨b, i * 2, none⟩ = some (.string u) := (HJ.out.2.cell (p := ⟨b, i * 2, none⟩) hbl).trans hc.1
      have c1 : wr.cell? ⟨b, i * 2 + 1, none⟩ = some (.string s) := (HJ.out.2.cell (p := ⟨b, i * 2 + 1, none⟩) hbl).trans hc.2
      have HU : Box (∀ W : World, Calls Tryz.prog 14 #[.agg #[.string u, .string s]] W fun e w' => e = .returned (.bool (userOk u s)) ∧ Below W.heap.size W w') := ⟨fun W => refUser_big u s W hzz⟩
      obtain ⟨q, hq⟩ : ∃ q, userOk u s = q := ⟨_, rfl⟩
      rw [hq] at HU
      have HX : Box _ := ⟨And.intro hu (And.intro hs (And.intro hq hc))⟩
      clear hu hs hq hc hzz
      go_wp2_with fail
      refine (HU.out _).mono ?_
      rintro e w1 ⟨rfl, hb1⟩
      have HB1 := Box.mk (HJ.out.2.trans (hb1.mono HJ.out.2.size))
      clear hb1 c0 c1
      cases q with
      | false =>
        have hr : res = false := by
          rw [← HR.out, goodTo_bad l i n hlt (by rw [goodAt, HX.out.1, HX.out.2.1, HX.out.2.2.1]; rfl)]
          rfl
        have HRR := Box.mk hr
        clear hr
        go_wp2
        go_ret
        rw [HRR.out]
        exact ⟨rfl, HB1.out⟩
      | true =>
        go_wp2
        go_loopw [4] (fun j wq => ∃ k : Nat, k ≤ i ∧ j = .int .i64 (k : Int) ∧ Box (diffTo l i k = true ∧ Below w.heap.size w wq)) (fun j _ => i - (intOf j).toNat)
        case atStart => exact ⟨0, Nat.zero_le _, rfl, ⟨rfl, HB1.out⟩⟩
        case round =>
          obtain ⟨k, hk, rfl, HK⟩ := hrel
          by_cases hki : k < i
          · obtain ⟨wo, hwo⟩ : ∃ wo, wr = wo := ⟨_, rfl⟩
            subst hwo
            have hc2 := HL.out.1 k (by omega)
            obtain ⟨v, hv⟩ : ∃ v, nameAt l k = v := ⟨_, rfl⟩
            rw [hv] at hc2
            have d0 : wr.cell? ⟨b, k * 2, none⟩ = some (.string v) := (HK.out.2.cell (p := ⟨b, k * 2, none⟩) hbl).trans hc2.1
            have d1 : wr.cell? ⟨b, i * 2, none⟩ = some (.string u) := (HK.out.2.cell (p := ⟨b, i * 2, none⟩) hbl).trans HX.out.2.2.2.1
            have HV := Box.mk hv
            clear hv hc2
            by_cases he : v = u
            · have hr : res = false := by
                rw [← HR.out, goodTo_bad l i n hlt (by rw [goodAt, diffTo_bad l i k hki (by rw [HV.out, HX.out.1, he])]; simp)]
                rfl
              have HRR := Box.mk hr
              have hq1 : (v.toList == u.toList) = true := by rw [he]; simp
              have hq2 : v.toList = u.toList := by rw [he]
              clear hr he
              go_wp2
              go_quiet (fail)
              go_wp2
              go_ret
              rw [HRR.out]
              exact ⟨rfl, below_drewN HK.out.2 _⟩
            · have hq1 : (v.toList == u.toList) = false := strNe he
              have hq2 : ¬ v.toList = u.toList := by simpa using hq1
              have hne : ¬ nameAt l k = nameAt l i := by rw [HV.out, HX.out.1]; exact he
              have HNE := Box.mk hne
              clear he hne
              go_wp2
              go_quiet (fail)
              go_wp2
              exact ⟨⟨k + 1, by omega, by go_num, ⟨by rw [diffTo_succ, HK.out.1, decide_eq_false HNE.out]; rfl, below_drewN HK.out.2 _⟩⟩, by simp [intOf]; omega⟩
          · obtain rfl : k = i := by omega
            go_wp2
            exact ⟨⟨k + 1, by omega, by go_num, ⟨by rw [goodTo_succ, HJ.out.1, goodAt, HX.out.1, HX.out.2.1, HX.out.2.2.1, HK.out.1]; rfl, HK.out.2⟩⟩, by simp [intOf]; omega⟩
    · obtain rfl : i = n := by omega
      have hr : res = decide (i ≤ 20) := by rw [← HR.out, HJ.out.1]; rfl
      have HRR := Box.mk hr
      clear hr
      go_wp2
      go_ret
      rw [HRR.out]
      refine ⟨ret_bool ?_, HJ.out.2⟩
      by_cases h : i ≤ 20
      · rw [decide_eq_true h, decide_eq_true (by omega)]
      · rw [decide_eq_false h, decide_eq_false (by omega)]
end Go.Proofs.YtkcfbipnhnboaaaGreat

namespace Go.Proofs.YtkcfbipnhnboaaaGreat
open Go.RowKit
set_option maxHeartbeats 1000000

theorem duo_gotK {w0 W : World} {ub g hb k : Nat} {t : TypeId} {cs : Array Value} {L L' : List URec} {gc : Array Value} {h h' : HSt} {b o : ByteArray} {now : Int} {c : Nat} (hS : Duo w0 ub g hb L gc h W) (hb9 : b.size ≤ 900000) (hg : h.got ≤ 999999) (hn : -9223372036854775808 ≤ now) (hn2 : now ≤ 9223372036854775807) (hR : gotR L h b now = (h', L', o, c)) (hK : Blk W k t cs) (ht : t ≠ 123) (ht2 : t ≠ 111) :
    Calls Tryz.prog 30 #[.pointer (some ⟨hb, 0, none⟩), .string b, .int .i64 now] W fun e w' => e = .returned (.tuple #[.string o, .int .i64 (c : Int)]) ∧ Duo w0 ub g hb L' gc h' w' ∧ Blk w' k t cs := by
  refine (got_any hb ub L h b now W hb9 hg hS.sess.ok hS.sess.secs hn hn2 hS.sess.host hS.sess.users).mono ?_
  intro e w' he
  have hch := he.2.2.2
  obtain ⟨h1, h2, h3⟩ := hS.sess.got hg hb9 he
  rw [hR] at h1 h2
  refine ⟨h1, ⟨h2, below_chg hS.bel hS.bel.size h3⟩, hch.block hK ?_⟩
  rintro (e | ⟨r, hr, e⟩)
  · exact blk_ne hK hS.sess.host ht e
  · exact blk_ne (hS.sess.users.cells r hr) hK (fun e => ht2 e.symm) e
theorem duo_chalK {w0 W : World} {ub g hb k : Nat} {t : TypeId} {cs : Array Value} {L : List URec} {u s h p : ByteArray} {x : HSt} {b : ByteArray} (hS : Duo w0 ub g hb L (guestC u s h p 0) x W) (hh : 0 < h.size) (hhs : h.size ≤ 100000) (hss : s.size ≤ 100000) (hbs : b.size ≤ 100000) (hf : isFixed 2 16 b = true) (hK : Blk W k t cs) (ht : t ≠ 90) :
    Calls Tryz.prog 18 #[.pointer (some ⟨g, 0, none⟩), .string b] W fun e w' => e = .returned (.tuple #[.string (letterB 3 (proofB s (h ++ b))), .int .i64 0]) ∧ Duo w0 ub g hb L (guestC u s h (h ++ b) 1) x w' ∧ Blk w' k t cs := by
  refine (challenge_yes g u s h p b W hh hhs hss hbs hf hS.sess.guest).mono ?_
  rintro e w' ⟨rfl, hG, hg⟩
  have := hS.sess.turn hG hg
  exact ⟨rfl, ⟨this.1, below_chg hS.bel hS.bel.size this.2⟩, blk_grown hK hg (fun e => by cases e; exact blk_ne hK hS.sess.guest ht rfl)⟩
theorem duo_finK {w0 W : World} {ub g hb k : Nat} {t : TypeId} {cs : Array Value} {L : List URec} {u s h p m : ByteArray} {x : HSt} (hS : Duo w0 ub g hb L (guestC u s h p 1) x W) (hh : 0 < h.size) (hss : s.size ≤ 100000) (hps : p.size ≤ 1000000) (hm : letterB 4 (finishB s p) = m) (hK : Blk W k t cs) (ht : t ≠ 90) :
    Calls Tryz.prog 22 #[.pointer (some ⟨g, 0, none⟩), .string m] W fun e w' => e = .returned (.tuple #[.agg #[.string (upOf s p), .string (downOf s p)], .int .i64 0]) ∧ Duo w0 ub g hb L (guestC u s h p 2) x w' ∧ Blk w' k t cs := by
  have hfm := finishB_size s p
  have hz : m.size ≤ 1000 := by rw [← hm, letterB_size, hfm]; decide
  have hfx : isFixed 4 32 m = true := by rw [← hm]; exact isFixed_letter 4 32 _ (by omega) hfm
  have hfb : fixedB 4 32 m = finishB s p := by rw [← hm]; exact fixedB_letter 4 32 _ (by omega) hfm
  refine ((finish_mac g u s h p m W hh hss hps (by omega) hfx hS.sess.guest).mono (finEnd_yes hfb)).mono ?_
  rintro e w' ⟨rfl, hG, hg⟩
  have := hS.sess.turn hG hg
  exact ⟨rfl, ⟨this.1, below_chg hS.bel hS.bel.size this.2⟩, blk_grown hK hg (fun e => by cases e; exact blk_ne hK hS.sess.guest ht rfl)⟩

/-! ### users out of a list -/
theorem fresh_rec {L : List URec} {l : List (ByteArray × ByteArray)} {i : Nat} (h : FreshOf L l) (hn : (l.map Prod.fst).Nodup) (hi : i < l.length) : ∃ g, recOf L (nameAt l i) = some (newRec (nameAt l i, secAt l i) g) := by
  obtain ⟨h1, h2⟩ := h
  subst h1
  rw [List.length_map] at hi
  have hna : nameAt (L.map fun r => (r.name, r.secret)) i = L[i].name := by rw [nameAt, List.getD_eq_getElem?_getD, List.getElem?_map, List.getElem?_eq_getElem hi]; rfl
  have hse : secAt (L.map fun r => (r.name, r.secret)) i = L[i].secret := by rw [secAt, List.getD_eq_getElem?_getD, List.getElem?_map, List.getElem?_eq_getElem hi]; rfl
  rw [hna, hse]
  obtain ⟨f1, f2, f3⟩ := h2 _ (List.getElem_mem hi)
  refine ⟨L[i].blk, ?_⟩
  have hex : recOf L L[i].name = some L[i] := by
    cases hr : recOf L L[i].name with
    | none => exact absurd (List.mem_map_of_mem (f := URec.name) (List.getElem_mem hi)) ((recOf_none_iff L _).1 hr)
    | some r =>
      obtain ⟨hm, hnm⟩ := recOf_mem hr
      rw [nodup_name (by rw [List.map_map] at hn; exact hn) hm (List.getElem_mem hi) hnm]
  rw [hex]
  congr 1
  generalize L[i] = r at f1 f2 f3
  cases r
  simp only at f1 f2 f3
  rw [f1, f2, f3]
  rfl
theorem newRec_unlocked {L : List URec} {u s : ByteArray} {g : Nat} (h : recOf L u = some (newRec (u, s) g)) (now : Int) : lockedAt L u now = false := by
  rw [lockedAt, h]; rfl
theorem solo_of_new {w0 W W' : World} {l : List (ByteArray × ByteArray)} {e : Ending} (hb : Below w0.heap.size w0 W) (hok : UsersOk l) (h : NewEnd l W e W') : ∃ ub L, e = .returned (.tuple #[.pointer (some ⟨ub, 0, none⟩), .int .i64 0]) ∧ Solo w0 ub L W' ∧ FreshOf L l ∧ Below W.heap.size W W' := by
  obtain ⟨ub, L, rfl, h1, h2, h3, h4, h5⟩ := h
  refine ⟨ub, L, rfl, ⟨h2, ?_, ?_, hb.trans (h5.mono hb.size)⟩, h3, h5⟩
  · intro r hr
    exact Nat.le_trans hb.size (h4 r.blk (.inr (.inl ⟨r, hr, rfl⟩)))
  · intro r hr
    have hm : (r.name, r.secret) ∈ l := by rw [← h3.1]; exact List.mem_map_of_mem (f := fun r : URec => (r.name, r.secret)) hr
    have := ((userOk_iff _ _).1 (hok.2.1 _ hm)).2
    simp only at this
    omega
theorem usersIn_of_own {W : World} {base n : Nat} {v : Value} {l : List (ByteArray × ByteArray)} (h : W.ownsRow base 23 2 v n (userVals l)) {g : Nat} (hv : v.ownBlock = some g) : UsersIn W g l := by
  intro i hi
  have hc := World.ownsRow.cells h hv
  obtain ⟨h1, h2⟩ := userVals_get l i hi
  have e1 := hc _ _ h1
  have e2 := hc _ _ h2
  refine ⟨?_, ?_⟩
  · rw [← e1]; congr 1; unfold Addr.add; split
    · rename_i e; rw [e]
    · simp
  · rw [← e2]; congr 1; unfold Addr.add; split
    · omega
    · simp
end Go.Proofs.YtkcfbipnhnboaaaGreat

namespace Go.Proofs.YtkcfbipnhnboaaaGreat
open Go.ChangeShapes Go.WideShapes
theorem cellsUser : Tryz.prog.cellsOf 23 = 2 := by kernel_rfl
theorem cellsStr : Tryz.prog.cellsOf 9 = 1 := by kernel_rfl
theorem open_users {H : Type} {enc : TypeId × Value → H} {w : World} {spare : Nat → Bool} {held : Bool} {fuel : Nat} {v : Option Addr} {len cap : Nat} {x : DataW H × List MemPlace}
    (h : DataW.trod enc Tryz.prog w 0 spare held fuel 50 [.slice v len cap] = some x) : len ≤ maxLen ∧
    ((v = none ∧ len = 0 ∧ cap = 0) ∨ ∃ (b o : Nat) (l : List (ByteArray × ByteArray)), v = some ⟨b, o, none⟩ ∧ l.length = len ∧ UsersFrom w b o l ∧ (len = 0 ∨ b < w.heap.size) ∧ ∀ p ∈ l, p.1.size ≤ maxLen ∧ p.2.size ≤ maxLen) ∨ (len = 0 ∧ ∃ a, v = some a) := by
  rcases Go.Deep.open_slice_pairs Tryz.underlying50 Tryz.underlying23 cellsUser rfl rfl cellsStr cellsStr h with ⟨hcs, hx⟩ | ⟨a, len', cap', m, n, V0, V1, D0, D1, P0, P1, hcs, hb, hl, hm, hmm, hx, hc⟩
  · simp at hcs
    obtain ⟨rfl, rfl, rfl⟩ := hcs
    exact Or.inl ⟨Nat.zero_le _, Or.inl ⟨rfl, rfl, rfl⟩⟩
  · simp at hcs
    obtain ⟨rfl, rfl, rfl⟩ := hcs
    have hlm : len ≤ m := by rw [hmm]; split <;> omega
    by_cases h0 : len = 0
    · exact Or.inr ⟨h0, a, rfl⟩
    · left
      refine ⟨by omega, Or.inr ?_⟩
      have each : ∀ i, i < len → ∃ q : ByteArray × ByteArray, w.cell? (a.add (i * 2)) = some (.string q.1) ∧ w.cell? (a.add (i * 2 + 1)) = some (.string q.2) ∧ q.1.size ≤ maxLen ∧ q.2.size ≤ maxLen := by
        intro i hi
        obtain ⟨c0, c1, t0, t1⟩ := hc i (by omega)
        obtain ⟨s0, e0, _, z0⟩ := DataW.trod_string Tryz.underlying9 t0
        obtain ⟨s1, e1, _, z1⟩ := DataW.trod_string Tryz.underlying9 t1
        simp at e0 e1
        rw [e0] at c0
        rw [e1] at c1
        exact ⟨(s0, s1), c0, c1, z0, z1⟩
      haveI : Inhabited (ByteArray × ByteArray) := ⟨(ByteArray.empty, ByteArray.empty)⟩
      obtain ⟨q, hq⟩ := Go.Deep.choose_lt each
      have hsp : a.spot = none := by simpa [Addr.add] using World.cell?_spot (hq 0 (by omega)).1
      have hbl : a.block < w.heap.size := by simpa [Addr.add] using World.block_lt_of_cell? _ _ (hq 0 (by omega)).1
      obtain ⟨b, o, sp⟩ := a
      subst hsp
      refine ⟨b, o, (List.range len).map q, rfl, by simp, ?_, Or.inr hbl, ?_⟩
      · intro i hi
        have hi' : i < len := by simpa using hi
        have hg : ((List.range len).map q).getD i (ByteArray.empty, ByteArray.empty) = q i := by simp [List.getD, hi']
        rw [hg]
        have e := hq i hi'
        rw [add_plain, add_plain] at e
        exact ⟨e.1, e.2.1⟩
      · intro p hp
        obtain ⟨i, hi, rfl⟩ := List.mem_map.1 hp
        exact ⟨(hq i (List.mem_range.1 hi)).2.2.1, (hq i (List.mem_range.1 hi)).2.2.2⟩
end Go.Proofs.YtkcfbipnhnboaaaGreat
