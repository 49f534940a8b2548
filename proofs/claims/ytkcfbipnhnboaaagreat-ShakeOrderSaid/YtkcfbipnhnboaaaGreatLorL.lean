/- The walk of ShakeOrder; a host without a guest. -/
import Derived.Test.YtkcfbipnhnboaaaGreatCh

namespace Go.Proofs.YtkcfbipnhnboaaaGreat
open Go.RowKit

/-- A host and its users; all of theirs is new since w0. -/
structure Hos (w0 : World) (ub hb : Nat) (L : List URec) (h : HSt) (W : World) : Prop where
  users : UsersAt W ub L
  host : Blk W hb 123 (hostC ub h)
  lowH : w0.heap.size ≤ hb
  lowU : ∀ r ∈ L, w0.heap.size ≤ r.blk
  secs : ∀ r ∈ L, r.secret.size ≤ 100000
  ok : HostOk h
  bel : Below w0.heap.size w0 W
theorem Hos.below {w0 W W' : World} {ub hb : Nat} {L : List URec} {h : HSt} (s : Hos w0 ub hb L h W) (hb' : Below W.heap.size W W') : Hos w0 ub hb L h W' :=
  ⟨s.users.below hb', Blk.below s.host hb', s.lowH, s.lowU, s.secs, s.ok, s.bel.trans (hb'.mono s.bel.size)⟩
theorem hos_new {w0 W : World} {ub : Nat} {L : List URec} {b : ByteArray} (hS : Solo w0 ub L W) (hb : b.size = 16) : Calls Tryz.prog 29 #[.pointer (some ⟨ub, 0, none⟩), .string b] W fun e w' => ∃ hb, e = .returned (.pointer (some ⟨hb, 0, none⟩)) ∧ Hos w0 ub hb L (hostNew b) w' := by
  refine (newHost_yes ub b W hb).mono ?_
  rintro e w' ⟨rfl, hH, hb2⟩
  exact ⟨W.heap.size, rfl, hS.users.below hb2, hH, hS.bel.size, hS.lowU, hS.secs, hostOk_new hb, hS.bel.trans (hb2.mono hS.bel.size)⟩
theorem hos_got {w0 W : World} {ub hb : Nat} {L L' : List URec} {h h' : HSt} {b o : ByteArray} {now : Int} {c : Nat} (hS : Hos w0 ub hb L h W) (hb9 : b.size ≤ 900000) (hg : h.got ≤ 999999) (hn : -9223372036854775808 ≤ now) (hn2 : now ≤ 9223372036854775807) (hR : gotR L h b now = (h', L', o, c)) :
    Calls Tryz.prog 30 #[.pointer (some ⟨hb, 0, none⟩), .string b, .int .i64 now] W fun e w' => e = .returned (.tuple #[.string o, .int .i64 (c : Int)]) ∧ Hos w0 ub hb L' h' w' := by
  refine (got_any hb ub L h b now W hb9 hg hS.ok hS.secs hn hn2 hS.host hS.users).mono ?_
  intro e w' he
  obtain ⟨h1, h2, h3, h4⟩ := he
  have hsame := gotR_same L h b now
  have hok := hS.ok.got_any (L := L) (now := now) hg hb9
  rw [hR] at h1 h2 h3 hsame hok
  refine ⟨h1, h3, h2, hS.lowH, ?_, ?_, hok, hS.bel.trans (h4.below hS.bel.size ?_)⟩
  · intro r hr
    obtain ⟨x, hx, _, _, e⟩ := same_mem hsame hr
    rw [← e]; exact hS.lowU x hx
  · intro r hr
    obtain ⟨x, hx, _, e, _⟩ := same_mem hsame hr
    rw [← e]; exact hS.secs x hx
  · rintro k (rfl | ⟨r, hr, rfl⟩)
    · exact hS.lowH
    · exact hS.lowU r hr
theorem hos_done {w0 W : World} {ub hb : Nat} {L : List URec} {x : HSt} (hS : Hos w0 ub hb L x W) : Calls Tryz.prog 31 #[.pointer (some ⟨hb, 0, none⟩)] W fun e w' => e = .returned (.bool x.done) ∧ W = w' := hDone_any hb ub x W hS.host
theorem hos_user {w0 W : World} {ub hb : Nat} {L : List URec} {x : HSt} (hS : Hos w0 ub hb L x W) : Calls Tryz.prog 32 #[.pointer (some ⟨hb, 0, none⟩)] W fun e w' => e = .returned (.string x.user) ∧ W = w' := hUser_any hb ub x W hS.host

/-- A host behind any first letter. -/
def hostFirst (b n : ByteArray) : HSt := ⟨n, 1, false, helloUser b, b ++ letterB 2 n, false, ByteArray.empty, ByteArray.empty⟩
def hostShut (n : ByteArray) : HSt := ⟨n, 1, true, ByteArray.empty, ByteArray.empty, false, ByteArray.empty, ByteArray.empty⟩
theorem gotR_first (L : List URec) (b n : ByteArray) (now : Int) : gotR L (hostNew n) b now = if isHello b = true then (hostFirst b n, L, letterB 2 n, 0) else (hostShut n, L, ByteArray.empty, 2) := by
  unfold gotR
  rw [if_neg (show ¬ (hostNew n).bad = true from Bool.false_ne_true), if_neg (show ¬ (hostNew n).done = true from Bool.false_ne_true), if_pos (show (hostNew n).got = 0 from rfl)]
  rfl
/-- A second letter ends it: done, or shut. -/
theorem gotR_second (L : List URec) (h : HSt) (b : ByteArray) (now : Int) (h1 : h.bad = false) (h2 : h.done = false) (h3 : h.got ≠ 0) : ((gotR L h b now).1.bad = true ∨ (gotR L h b now).1.done = true) ∧ (gotR L h b now).1.done = decide ((gotR L h b now).2.2.2 = 0) := by
  unfold gotR
  rw [if_neg (by rw [h1]; decide), if_neg (by rw [h2]; decide), if_neg h3]
  have hp : (provedR L { h with got := h.got + 1 } b now).1.done = decide ((provedR L { h with got := h.got + 1 } b now).2.2.2 = 0) := by
    unfold provedR
    split
    · split
      · exact h2
      · split
        · exact h2
        · split
          · rfl
          · exact h2
    · exact h2
  refine ⟨?_, hp⟩
  show decide ((provedR L { h with got := h.got + 1 } b now).2.2.2 ≠ 0) = true ∨ (provedR L { h with got := h.got + 1 } b now).1.done = true
  rw [hp]
  by_cases e : (provedR L { h with got := h.got + 1 } b now).2.2.2 = 0
  · right; simp [e]
  · left; simp [e]

set_option maxHeartbeats 2000000 in
set_option maxRecDepth 100000 in
theorem shakeOrder_main (a b : ByteArray) (w : World) (ha : a.size ≤ 200) (hb : b.size ≤ 200) : Calls Tryz.prog 7 #[.string a, .string b] w fun e w' => e = .returned (.bool true) ∧ Below w.heap.size w w' := by
  have HAL : Box (∀ W : World, Calls Tryz.prog 12 #[] W fun e w' => e = .returned (.bool true) ∧ Below W.heap.size W w') := ⟨fun W => alive_any W⟩
  have HF : Box (∀ W : World, Calls Tryz.prog 16 #[.string ⟨#[115]⟩, .int .i64 32] W fun e w' => e = .returned (.string (fillB sB 32)) ∧ W = w') := ⟨fun W => fill_any sB 32 W (by omega)⟩
  have hau := annOk
  obtain ⟨s, hs⟩ : ∃ s, fillB sB 32 = s := ⟨_, rfl⟩
  rw [hs] at hau HF
  have HN : Box (∀ W : World, Below w.heap.size w W → Calls Tryz.prog 28 #[.slice (some ⟨W.heap.size, 0, none⟩) 1 1] (W.alloc (.cells #[.string ⟨#[97, 110, 110]⟩, .string s] 23)) fun e w' => ∃ ub g, e = .returned (.tuple #[.pointer (some ⟨ub, 0, none⟩), .int .i64 0]) ∧ Solo w ub [newRec (annB, s) g] w') := ⟨fun W hW => solo_new hW hau⟩
  have HNH : Box (∀ (ub : Nat) (L : List URec) (W : World), Solo w ub L W → Calls Tryz.prog 29 #[.pointer (some ⟨ub, 0, none⟩), .string ⟨#[102, 101, 100, 99, 98, 97, 57, 56, 55, 54, 53, 52, 51, 50, 49, 48]⟩] W fun e w' => ∃ hb, e = .returned (.pointer (some ⟨hb, 0, none⟩)) ∧ Hos w ub hb L (hostNew nonceZ) w') := ⟨fun ub L W hW => hos_new (b := nonceZ) hW rfl⟩
  clear hs hau
  cases hi : isHello a with
  | false =>
    have HG : Box (∀ W : World, Calls Tryz.prog 36 #[.string a] W fun e w' => e = .returned (.tuple #[.agg #[.string ByteArray.empty, .string ByteArray.empty], .bool false]) ∧ Below W.heap.size W w') := ⟨fun W => by have := refGetHello_any a W (by omega); rw [hi] at this; exact this⟩
    have hr1 : ∀ L, gotR L (hostNew nonceZ) a 1 = (hostShut nonceZ, L, ByteArray.empty, 2) := fun L => by rw [gotR_first, hi, if_neg (by decide)]
    have HH : Box (∀ W : World, Calls Tryz.prog 15 #[.agg #[.string ⟨#[97, 110, 110]⟩, .string ⟨#[48, 49, 50, 51, 52, 53, 54, 55, 56, 57, 97, 98, 99, 100, 101, 102]⟩]] W fun e w' => e = .returned (.tuple #[.string (helloB annB nonceA), .bool true]) ∧ Below W.heap.size W w') := ⟨fun W => refHello_yes annB nonceA W ann_ok⟩
    have hhz : (helloB annB nonceA).size ≤ 100 := by rw [helloB_size]; decide
    obtain ⟨hl, hhl⟩ : ∃ hl, helloB annB nonceA = hl := ⟨_, rfl⟩
    rw [hhl] at HH hhz
    have hr2 : ∀ L, gotR L (hostShut nonceZ) hl 1 = (hostShut nonceZ, L, ByteArray.empty, 7) := fun L => gotR_over L _ _ 1 (.inl rfl)
    have HR : Box _ := ⟨And.intro hr1 hr2⟩
    have HUS : Box (∀ (ub hb : Nat) (L : List URec) (W : World), Hos w ub hb L (hostShut nonceZ) W → Calls Tryz.prog 32 #[.pointer (some ⟨hb, 0, none⟩)] W fun e w' => e = .returned (.string ⟨#[]⟩) ∧ W = w') := ⟨fun _ _ _ W h => hos_user h⟩
    clear hi hr1 hr2 hhl
    go_enter Tryz.func7, Tryz.ntmps7
    go_wp2_with fail
    refine (HAL.out _).mono ?_
    rintro e w1 ⟨rfl, hb1⟩
    have H1 := Box.mk hb1
    clear hb1
    go_wp2_with fail
    refine (HF.out _).mono ?_
    rintro e w2 ⟨rfl, rfl⟩
    go_wp2_with fail
    refine (HN.out _ H1.out).mono ?_
    rintro e w3 ⟨ub, gu, rfl, hS3⟩
    have H3 := Box.mk hS3
    clear hS3
    go_wp2_with fail
    refine (HNH.out _ _ _ H3.out).mono ?_
    rintro e w4 ⟨hh, rfl, hS4⟩
    have H4 := Box.mk hS4
    clear hS4
    go_wp2_with fail
    refine (HG.out _).mono ?_
    rintro e w5 ⟨rfl, hb5⟩
    have H5 := Box.mk ((H4.out.below hb5).below ((Below.refl _ _).alloc (Nat.le_refl _) (.cells #[.string ByteArray.empty, .string ByteArray.empty] 32)))
    clear hb5
    go_wp2_with fail
    refine (hos_got H5.out (by omega) (Nat.zero_le _) (by decide) (by decide) (HR.out.1 _)).mono ?_
    rintro e w6 ⟨rfl, hS6⟩
    have H6 := Box.mk hS6
    clear hS6
    go_wp2_with fail
    refine (HH.out _).mono ?_
    rintro e w7 ⟨rfl, hb7⟩
    have H7 := Box.mk (H6.out.below hb7)
    clear hb7
    go_wp2_with fail
    refine (hos_got H7.out (by omega) (show 1 ≤ 999999 by decide) (by decide) (by decide) (HR.out.2 _)).mono ?_
    rintro e w8 ⟨rfl, hS8⟩
    have H8 := Box.mk hS8
    clear hS8
    go_wp2_with fail
    refine (hos_done H8.out).mono ?_
    rintro e w9 ⟨rfl, rfl⟩
    go_wp2_with fail
    refine (HUS.out _ _ _ _ H8.out).mono ?_
    rintro e w9 ⟨rfl, rfl⟩
    go_wp2
    go_ret
    exact ⟨rfl, H8.out.bel⟩
  | true =>
    have HG : Box (∀ W : World, Calls Tryz.prog 36 #[.string a] W fun e w' => e = .returned (.tuple #[.agg #[.string (helloUser a), .string (helloNonce a)], .bool true]) ∧ Below W.heap.size W w') := ⟨fun W => by have := refGetHello_any a W (by omega); rw [hi] at this; exact this⟩
    have hr1 : ∀ L, gotR L (hostNew nonceZ) a 1 = (hostFirst a nonceZ, L, letterB 2 nonceZ, 0) := fun L => by rw [gotR_first, hi, if_pos rfl]
    have hr2 : ∀ L, ∃ h2 L2 o2 c2, gotR L (hostFirst a nonceZ) b 1 = (h2, L2, o2, c2) ∧ (h2.bad = true ∨ h2.done = true) ∧ h2.done = decide (c2 = 0) ∧ h2.got ≤ 2 := fun L => by
      have h := gotR_second L (hostFirst a nonceZ) b 1 rfl rfl Nat.one_ne_zero
      refine ⟨(gotR L (hostFirst a nonceZ) b 1).1, (gotR L (hostFirst a nonceZ) b 1).2.1, (gotR L (hostFirst a nonceZ) b 1).2.2.1, (gotR L (hostFirst a nonceZ) b 1).2.2.2, rfl, h.1, h.2, ?_⟩
      unfold gotR
      rw [if_neg (show ¬ (hostFirst a nonceZ).bad = true from Bool.false_ne_true), if_neg (show ¬ (hostFirst a nonceZ).done = true from Bool.false_ne_true), if_neg (show ¬ (hostFirst a nonceZ).got = 0 from Nat.one_ne_zero)]
      show (provedR L { hostFirst a nonceZ with got := (hostFirst a nonceZ).got + 1 } b 1).1.got ≤ 2
      rw [(provedR_host L _ b 1).2.2.2]
      exact Nat.le_refl _
    obtain ⟨u, hu⟩ : ∃ u, helloUser a = u := ⟨_, rfl⟩
    obtain ⟨n, hn⟩ : ∃ n, helloNonce a = n := ⟨_, rfl⟩
    obtain ⟨h1, hh1⟩ : ∃ h1, hostFirst a nonceZ = h1 := ⟨_, rfl⟩
    obtain ⟨c, hc⟩ : ∃ c, letterB 2 nonceZ = c := ⟨_, rfl⟩
    have hg1 : h1.got ≤ 1 := by rw [← hh1]; exact Nat.le_refl _
    rw [hu, hn] at HG
    rw [hh1, hc] at hr1
    rw [hh1] at hr2
    have HR : Box _ := ⟨And.intro hr1 (And.intro hr2 hg1)⟩
    clear hi hr1 hr2 hu hn hh1 hc hg1
    go_enter Tryz.func7, Tryz.ntmps7
    go_wp2_with fail
    refine (HAL.out _).mono ?_
    rintro e w1 ⟨rfl, hb1⟩
    have H1 := Box.mk hb1
    clear hb1
    go_wp2_with fail
    refine (HF.out _).mono ?_
    rintro e w2 ⟨rfl, rfl⟩
    go_wp2_with fail
    refine (HN.out _ H1.out).mono ?_
    rintro e w3 ⟨ub, gu, rfl, hS3⟩
    have H3 := Box.mk hS3
    clear hS3
    go_wp2_with fail
    refine (HNH.out _ _ _ H3.out).mono ?_
    rintro e w4 ⟨hh, rfl, hS4⟩
    have H4 := Box.mk hS4
    clear hS4
    go_wp2_with fail
    refine (HG.out _).mono ?_
    rintro e w5 ⟨rfl, hb5⟩
    have H5 := Box.mk ((H4.out.below hb5).below ((Below.refl _ _).alloc (Nat.le_refl _) (.cells #[.string u, .string n] 32)))
    clear hb5
    go_wp2_with fail
    refine (hos_got H5.out (by omega) (Nat.zero_le _) (by decide) (by decide) (HR.out.1 _)).mono ?_
    rintro e w6 ⟨rfl, hS6⟩
    have H6 := Box.mk hS6
    clear hS6
    obtain ⟨h2, L2, o2, c2, hR2, hor, hdn, hg2⟩ := HR.out.2.1 [newRec (annB, s) gu]
    have HR2 := Box.mk (And.intro hR2 (gotR_over L2 h2 b 1 hor))
    have HDN := Box.mk hdn
    clear hR2 hor hdn
    go_wp2_with fail
    refine (hos_got H6.out (by omega) (by have := HR.out.2.2; omega) (by decide) (by decide) HR2.out.1).mono ?_
    rintro e w7 ⟨rfl, hS7⟩
    have H7 := Box.mk hS7
    clear hS7
    go_wp2_with fail
    refine (hos_got H7.out (by omega) (by omega) (by decide) (by decide) HR2.out.2).mono ?_
    rintro e w8 ⟨rfl, hS8⟩
    have H8 := Box.mk hS8
    clear hS8
    by_cases h0 : c2 = 0
    · have hd : h2.done = true := by rw [HDN.out, decide_eq_true h0]
      have hq : ((c2 : Int) != 0) = false := by simp [h0]
      have HD : Box (∀ W, Hos w ub hh L2 h2 W → Calls Tryz.prog 31 #[.pointer (some ⟨hh, 0, none⟩)] W fun e w' => e = .returned (.bool true) ∧ W = w') := ⟨fun W h => by rw [← hd]; exact hos_done h⟩
      clear h0 hd
      go_wp2_with fail
      refine (HD.out _ H8.out).mono ?_
      rintro e w9 ⟨rfl, rfl⟩
      go_wp2
      go_ret
      exact ⟨rfl, H8.out.bel⟩
    · have hd : h2.done = false := by rw [HDN.out, decide_eq_false h0]
      have hq : ((c2 : Int) != 0) = true := by simp; omega
      have HD : Box (∀ W, Hos w ub hh L2 h2 W → Calls Tryz.prog 31 #[.pointer (some ⟨hh, 0, none⟩)] W fun e w' => e = .returned (.bool false) ∧ W = w') := ⟨fun W h => by rw [← hd]; exact hos_done h⟩
      clear h0 hd
      go_wp2_with fail
      refine (HD.out _ H8.out).mono ?_
      rintro e w9 ⟨rfl, rfl⟩
      go_wp2
      go_ret
      exact ⟨rfl, H8.out.bel⟩

set_option maxHeartbeats 2000000 in
set_option maxRecDepth 100000 in
theorem shakeOrder_walk (a b : ByteArray) (w : World) : Calls Tryz.prog 7 #[.string a, .string b] w fun e w' => e = .returned (.bool true) ∧ Below w.heap.size w w' := by
  have HAL : Box (∀ W : World, Calls Tryz.prog 12 #[] W fun e w' => e = .returned (.bool true) ∧ Below W.heap.size W w') := ⟨fun W => alive_any W⟩
  by_cases h1 : 200 < a.size
  · go_enter Tryz.func7, Tryz.ntmps7
    go_wp2_with fail
    refine (HAL.out _).mono ?_
    rintro e w1 ⟨rfl, hb1⟩
    go_wp2
    go_ret
    exact ⟨rfl, hb1⟩
  · by_cases h2 : 200 < b.size
    · go_enter Tryz.func7, Tryz.ntmps7
      go_wp2_with fail
      refine (HAL.out _).mono ?_
      rintro e w1 ⟨rfl, hb1⟩
      go_wp2
      go_ret
      exact ⟨rfl, hb1⟩
    · exact shakeOrder_main a b w (by omega) (by omega)
end Go.Proofs.YtkcfbipnhnboaaaGreat
