/- shake.Host.Got. Letters put together and taken apart: plain laws. The two keys of the first call of the statements differ: by reckoning. users.New. law16.alive is true. What the statements on handshakes do, call by call: users alone; with a guest; with a guest and a host. -/
import Derived.Test.YtkcfbipnhnboaaaGreatCf
import Derived.Deep.RegionHeld3
import Derived.Deep.DeepCutAuto

namespace Go.Proofs.YtkcfbipnhnboaaaGreat
open Go.RowKit Go.MuLone

/-- A host behind a letter; the users; the answer. -/
def gotR (L : List URec) (h : HSt) (b : ByteArray) (now : Int) : HSt × List URec × ByteArray × Nat :=
  if h.bad = true then (h, L, ByteArray.empty, 7)
  else if h.done = true then (h, L, ByteArray.empty, 7)
  else if h.got = 0 then
    if isHello b = true then ({ h with got := 1, bad := false, user := helloUser b, papers := b ++ letterB 2 h.nonce }, L, letterB 2 h.nonce, 0)
    else ({ h with got := 1, bad := true }, L, ByteArray.empty, 2)
  else ({ (provedR L { h with got := h.got + 1 } b now).1 with bad := decide ((provedR L { h with got := h.got + 1 } b now).2.2.2 ≠ 0) }, (provedR L { h with got := h.got + 1 } b now).2.1, (provedR L { h with got := h.got + 1 } b now).2.2.1, (provedR L { h with got := h.got + 1 } b now).2.2.2)

/-- What a host's strings may take up. -/
structure HostOk (h : HSt) : Prop where
  nonce : h.nonce.size = 16
  user : h.user.size ≤ 1000000
  papers : h.papers.size ≤ 1000000
  got : h.got ≤ 1000000
  open0 : h.got = 0 → h.done = false
theorem hostOk_new {n : ByteArray} (hn : n.size = 16) : HostOk (hostNew n) := ⟨hn, Nat.zero_le _, Nat.zero_le _, Nat.zero_le _, fun _ => rfl⟩
theorem helloUser_le (b : ByteArray) : (helloUser b).size ≤ b.size := by rw [helloUser, ByteArray.size_extract]; omega
theorem provedR_host (L : List URec) (h : HSt) (b : ByteArray) (now : Int) : (provedR L h b now).1.nonce = h.nonce ∧ (provedR L h b now).1.user = h.user ∧ (provedR L h b now).1.papers = h.papers ∧ (provedR L h b now).1.got = h.got := by
  unfold provedR
  split
  · split
    · exact ⟨rfl, rfl, rfl, rfl⟩
    · split
      · exact ⟨rfl, rfl, rfl, rfl⟩
      · split <;> exact ⟨rfl, rfl, rfl, rfl⟩
  · exact ⟨rfl, rfl, rfl, rfl⟩
theorem HostOk.got_any {L : List URec} {h : HSt} {b : ByteArray} {now : Int} (ho : HostOk h) (hg : h.got ≤ 999999) (hb : b.size ≤ 900000) : HostOk (gotR L h b now).1 := by
  obtain ⟨h1, h2, h3, h4, h5⟩ := ho
  unfold gotR
  split
  · exact ⟨h1, h2, h3, h4, h5⟩
  · split
    · exact ⟨h1, h2, h3, h4, h5⟩
    · split
      · split
        · exact ⟨h1, Nat.le_trans (helloUser_le b) (by omega), by show (b ++ letterB 2 h.nonce).size ≤ _; rw [ByteArray.size_append, letterB_size]; omega, by show 1 ≤ 1000000; omega, fun e => absurd (show (1 : Nat) = 0 from e) (by decide)⟩
        · exact ⟨h1, h2, h3, by show 1 ≤ 1000000; omega, fun e => absurd (show (1 : Nat) = 0 from e) (by decide)⟩
      · obtain ⟨p1, p2, p3, p4⟩ := provedR_host L { h with got := h.got + 1 } b now
        refine ⟨?_, ?_, ?_, ?_, ?_⟩
        · show (provedR L { h with got := h.got + 1 } b now).1.nonce.size = 16
          rw [p1]; exact h1
        · show (provedR L { h with got := h.got + 1 } b now).1.user.size ≤ _
          rw [p2]; exact h2
        · show (provedR L { h with got := h.got + 1 } b now).1.papers.size ≤ _
          rw [p3]; exact h3
        · show (provedR L { h with got := h.got + 1 } b now).1.got ≤ _
          rw [p4]; show h.got + 1 ≤ _; omega
        · intro e
          have e : (provedR L { h with got := h.got + 1 } b now).1.got = 0 := e
          rw [p4] at e
          exact absurd e (Nat.succ_ne_zero _)

set_option maxHeartbeats 1000000 in
set_option maxRecDepth 100000 in
theorem got_nil (b : ByteArray) (now : Int) (w : World) : Calls Tryz.prog 30 #[.pointer none, .string b, .int .i64 now] w fun e w' => e = .returned (.tuple #[.string ByteArray.empty, .int .i64 7]) ∧ w = w' := by
  go_enter Tryz.func30, Tryz.ntmps30
  go_wp2
  go_ret2
  exact ⟨rfl, rfl⟩

set_option maxHeartbeats 1000000 in
set_option maxRecDepth 100000 in
theorem got_any (hb ub : Nat) (L : List URec) (h : HSt) (b : ByteArray) (now : Int) (w : World) (hbs : b.size ≤ 900000) (hg9 : h.got ≤ 999999) (ho : HostOk h) (hss : ∀ r ∈ L, r.secret.size ≤ 100000) (hn : -9223372036854775808 ≤ now) (hn2 : now ≤ 9223372036854775807)
    (hB : Blk w hb 123 (hostC ub h)) (hU : UsersAt w ub L) : Calls Tryz.prog 30 #[.pointer (some ⟨hb, 0, none⟩), .string b, .int .i64 now] w (HostEnd hb ub L w (gotR L h b now)) := by
  obtain ⟨R, hR⟩ : ∃ R, gotR L h b now = R := ⟨_, rfl⟩
  rw [hR]
  have HE : Box _ := ⟨hR⟩
  unfold gotR at HE
  have c0 : w.cell? ⟨hb, 0, none⟩ = some (.pointer (some ⟨ub, 0, none⟩)) := Blk.cell hB 0
  have c3 : w.cell? ⟨hb, 3, none⟩ = some (.bool h.bad) := Blk.cell hB 3
  have c9 : w.cell? ⟨hb, 9, none⟩ = some (.bool h.done) := Blk.cell hB 9
  have c2 : w.cell? ⟨hb, 2, none⟩ = some (.int .i64 (h.got : Int)) := Blk.cell hB 2
  have f2 : w.frozen? ⟨hb, 2, none⟩ = false := Blk.free hB 2
  have H0 : Box _ := ⟨And.intro hB (And.intro hU (And.intro hss ho))⟩
  obtain ⟨bad, hbad⟩ : ∃ x, h.bad = x := ⟨_, rfl⟩
  obtain ⟨done, hdone⟩ : ∃ x, h.done = x := ⟨_, rfl⟩
  obtain ⟨g, hgot⟩ : ∃ x, h.got = x := ⟨_, rfl⟩
  rw [hbad] at c3
  rw [hdone] at c9
  rw [hgot] at c2 hg9
  have HD : Box _ := ⟨And.intro hbad (And.intro hdone hgot)⟩
  clear hR hB hU hss ho hbad hdone hgot
  cases bad with
  | true =>
    have hR : R = (h, L, ByteArray.empty, 7) := by have e := HE.out; rw [if_pos HD.out.1] at e; exact e.symm
    have HR : Box _ := ⟨hR⟩
    clear hR
    go_enter Tryz.func30, Tryz.ntmps30
    go_wp2
    go_ret2
    rw [HR.out]
    exact ⟨rfl, H0.out.1, H0.out.2.1, Chg.refl _ _⟩
  | false =>
    cases done with
    | true =>
      have hR : R = (h, L, ByteArray.empty, 7) := by have e := HE.out; rw [if_neg (by rw [HD.out.1]; decide), if_pos HD.out.2.1] at e; exact e.symm
      have HR : Box _ := ⟨hR⟩
      clear hR
      go_enter Tryz.func30, Tryz.ntmps30
      go_wp2
      go_ret2
      rw [HR.out]
      exact ⟨rfl, H0.out.1, H0.out.2.1, Chg.refl _ _⟩
    | false =>
      have hset : ∀ W : World, Blk W hb 123 (hostC ub h) → Blk (W.setCell ⟨hb, 2, none⟩ (.int .i64 ((g : Int) + 1))) hb 123 (hostC ub { h with got := g + 1 }) := fun W hW => Blk.set hW 2 (.int .i64 ((g : Int) + 1))
      have hsetb : ∀ (W : World) (x : HSt) (q : Bool), Blk W hb 123 (hostC ub x) → Blk (W.setCell ⟨hb, 3, none⟩ (.bool q)) hb 123 (hostC ub { x with bad := q }) := fun W x q hW => Blk.set hW 3 (.bool q)
      obtain ⟨wa, hwa⟩ : ∃ wa, w.setCell ⟨hb, 2, none⟩ (.int .i64 ((g : Int) + 1)) = wa := ⟨_, rfl⟩
      have hBa : Blk wa hb 123 (hostC ub { h with got := g + 1 }) := by rw [← hwa]; exact hset w H0.out.1
      have hga : w.grownBy wa (some hb) := by rw [← hwa]; exact grown_set w _ _
      have hUa : UsersAt wa ub L := H0.out.2.1.hostSet H0.out.1 hga
      have HA : Box _ := ⟨And.intro hBa (And.intro hUa hga)⟩
      have HSB : Box _ := ⟨hsetb⟩
      have d2 : wa.cell? ⟨hb, 2, none⟩ = some (.int .i64 ((g : Int) + 1)) := Blk.cell hBa 2
      clear hset hsetb hBa hga hUa
      by_cases h0 : g = 0
      · subst h0
        have hwa1 : w.setCell ⟨hb, 2, none⟩ (.int .i64 1) = wa := hwa
        have d2' : wa.cell? ⟨hb, 2, none⟩ = some (.int .i64 1) := d2
        clear hwa d2
        by_cases hi : isHello b = true
        · have hR : R = ({ h with got := 1, bad := false, user := helloUser b, papers := b ++ letterB 2 h.nonce }, L, letterB 2 h.nonce, 0) := by
            have e := HE.out
            rw [if_neg (by rw [HD.out.1]; decide), if_neg (by rw [HD.out.2.1]; decide), if_pos HD.out.2.2, if_pos hi] at e
            exact e.symm
          have HR : Box _ := ⟨hR⟩
          have HGR : Box (∀ W : World, Blk W hb 123 (hostC ub { h with got := 0 + 1 }) → Calls Tryz.prog 59 #[.pointer (some ⟨hb, 0, none⟩), .string b] W fun e w' => e = .returned (.tuple #[.string (letterB 2 h.nonce), .int .i64 0]) ∧ Blk w' hb 123 (hostC ub { h with got := 0 + 1, user := helloUser b, papers := b ++ letterB 2 h.nonce }) ∧ W.grownBy w' (some hb)) := ⟨fun W hW => greeted_yes hb ub { h with got := 0 + 1 } b W (by omega) hi H0.out.2.2.2.nonce hW⟩
          obtain ⟨c, hc⟩ : ∃ c, letterB 2 h.nonce = c := ⟨_, rfl⟩
          rw [hc] at HGR HR
          clear hR hi hc
          go_enter Tryz.func30, Tryz.ntmps30
          go_wp2_with fail
          try rw [hwa1]
          clear hwa1
          refine (HGR.out _ HA.out.1).mono ?_
          rintro e w5 ⟨rfl, hB5, hg5⟩
          have hU5 := HA.out.2.1.hostSet HA.out.1 hg5
          have H5 : Box _ := ⟨And.intro hB5 (And.intro hU5 hg5)⟩
          have e3 : w5.cell? ⟨hb, 3, none⟩ = some (.bool h.bad) := Blk.cell hB5 3
          have k3 : w5.frozen? ⟨hb, 3, none⟩ = false := Blk.free hB5 3
          clear hB5 hU5 hg5
          go_wp2
          go_ret2
          rw [HR.out]
          refine ⟨rfl, HSB.out w5 _ false H5.out.1, H5.out.2.1.hostSet H5.out.1 (grown_set w5 ⟨hb, 3, none⟩ _), ?_⟩
          exact (((Chg.of_grown (S := HostS hb L) HA.out.2.2 (.inl rfl)).trans (Chg.of_grown H5.out.2.2 (.inl rfl))).set hb 3 _ (.inl rfl))
        · have hif : isHello b = false := by simpa using hi
          have hR : R = ({ h with got := 1, bad := true }, L, ByteArray.empty, 2) := by
            have e := HE.out
            rw [if_neg (by rw [HD.out.1]; decide), if_neg (by rw [HD.out.2.1]; decide), if_pos HD.out.2.2, if_neg hi] at e
            exact e.symm
          have HR : Box _ := ⟨hR⟩
          have HGR : Box (∀ W : World, Calls Tryz.prog 59 #[.pointer (some ⟨hb, 0, none⟩), .string b] W fun e w' => e = .returned (.tuple #[.string ByteArray.empty, .int .i64 2]) ∧ Below W.heap.size W w') := ⟨fun W => greeted_no hb b W (by omega) hif⟩
          clear hR hi hif
          go_enter Tryz.func30, Tryz.ntmps30
          go_wp2_with fail
          try rw [hwa1]
          clear hwa1
          refine (HGR.out _).mono ?_
          rintro e w5 ⟨rfl, hb5⟩
          have hB5 := Blk.below HA.out.1 hb5
          have H5 : Box _ := ⟨And.intro hB5 (And.intro (HA.out.2.1.below hb5) hb5)⟩
          have e3 : w5.cell? ⟨hb, 3, none⟩ = some (.bool h.bad) := Blk.cell hB5 3
          have k3 : w5.frozen? ⟨hb, 3, none⟩ = false := Blk.free hB5 3
          clear hB5 hb5
          go_wp2
          go_ret2
          rw [HR.out]
          refine ⟨rfl, HSB.out w5 _ true H5.out.1, H5.out.2.1.hostSet H5.out.1 (grown_set w5 ⟨hb, 3, none⟩ _), ?_⟩
          exact (((Chg.of_grown (S := HostS hb L) HA.out.2.2 (.inl rfl)).trans (Chg.of_below H5.out.2.2)).set hb 3 _ (.inl rfl))
      · have hq : (((g : Int) + 1) == 1) = false := by simp; omega
        have hR : R = ({ (provedR L { h with got := g + 1 } b now).1 with bad := decide ((provedR L { h with got := g + 1 } b now).2.2.2 ≠ 0) }, (provedR L { h with got := g + 1 } b now).2.1, (provedR L { h with got := g + 1 } b now).2.2.1, (provedR L { h with got := g + 1 } b now).2.2.2) := by
          have e := HE.out
          rw [if_neg (by rw [HD.out.1]; decide), if_neg (by rw [HD.out.2.1]; decide), if_neg (by rw [HD.out.2.2]; exact h0), HD.out.2.2] at e
          exact e.symm
        have HPV : Box (∀ W : World, Blk W hb 123 (hostC ub { h with got := g + 1 }) → UsersAt W ub L → Calls Tryz.prog 60 #[.pointer (some ⟨hb, 0, none⟩), .string b, .int .i64 now] W (HostEnd hb ub L W (provedR L { h with got := g + 1 } b now))) := ⟨fun W hW hWU => proved_any hb ub L { h with got := g + 1 } b now W (by omega) H0.out.2.2.2.user H0.out.2.2.2.papers H0.out.2.2.1 HD.out.2.1 hn hn2 hW hWU⟩
        obtain ⟨Q, hQ⟩ : ∃ Q, provedR L { h with got := g + 1 } b now = Q := ⟨_, rfl⟩
        rw [hQ] at hR HPV
        obtain ⟨qh, ql, qo, qe⟩ := Q
        have HR : Box _ := ⟨hR⟩
        clear hR hQ h0
        go_enter Tryz.func30, Tryz.ntmps30
        go_wp2_with fail
        try rw [hwa]
        clear hwa
        refine (HPV.out _ HA.out.1 HA.out.2.1).mono ?_
        rintro e w5 ⟨rfl, hB5, hU5, hc5⟩
        have H5 : Box _ := ⟨And.intro hB5 (And.intro hU5 hc5)⟩
        have e3 : w5.cell? ⟨hb, 3, none⟩ = some (.bool qh.bad) := Blk.cell hB5 3
        have k3 : w5.frozen? ⟨hb, 3, none⟩ = false := Blk.free hB5 3
        have hqe : ((qe : Int) != 0) = decide (qe ≠ 0) := by
          by_cases e : qe = 0
          · subst e; rfl
          · rw [decide_eq_true e]; simp; omega
        clear hB5 hU5 hc5
        go_wp2
        go_ret2
        rw [HR.out]
        rw [show (!decide (qe = 0)) = decide (qe ≠ 0) from by simp]
        refine ⟨rfl, HSB.out w5 _ (decide (qe ≠ 0)) H5.out.1, H5.out.2.1.hostSet H5.out.1 (grown_set w5 ⟨hb, 3, none⟩ _), ?_⟩
        exact (((Chg.of_grown (S := HostS hb L) HA.out.2.2 (.inl rfl)).trans H5.out.2.2).set hb 3 _ (.inl rfl))
end Go.Proofs.YtkcfbipnhnboaaaGreat

namespace Go.Proofs.YtkcfbipnhnboaaaGreat
open Go.RowKit

theorem byteAt_left (a b : ByteArray) (i : Nat) (h : i < a.size) : byteAt (a ++ b) i = byteAt a i := by
  unfold byteAt
  rw [ByteArray.data_append, Array.toList_append, List.getD_eq_getElem?_getD, List.getD_eq_getElem?_getD, List.getElem?_append_left (by simpa using h)]
theorem letterB_first (k : Nat) (b : ByteArray) (hk : k < 256) : byteAt (letterB k b) 0 = k := by
  rw [letterB, byteAt_left _ _ _ (by rw [strOf_size]; simp), byteAt_strOf _ 0 (by simp) (by simpa using hk)]
  rfl
theorem letterB_rest (k : Nat) (b : ByteArray) : (letterB k b).extract 1 (letterB k b).size = b := by
  rw [letterB, ByteArray.size_append, strOf_size]
  have h1 : (strOf [k]).size = 1 := strOf_size _
  rw [ByteArray.extract_append, h1]
  have e1 : (strOf [k]).extract 1 (([k] : List Nat).length + b.size) = ByteArray.empty := by
    apply ByteArray.ext
    apply Array.ext_getElem?
    intro i
    simp only [ByteArray.data_extract, Array.getElem?_extract]
    have : (strOf [k]).data.size = 1 := h1
    split
    · rw [Array.getElem?_eq_none (by omega)]; rfl
    · rfl
  rw [e1, ByteArray.empty_append]
  show b.extract (1 - 1) (1 + b.size - 1) = b
  rw [Nat.add_sub_cancel_left]
  exact extract_all b
theorem letterB_kind (k : Nat) (b : ByteArray) (hk : 1 ≤ k ∧ k ≤ 5) : kindOf (letterB k b) = k := by
  rw [kindOf, if_neg (by rw [letterB_size]; omega), letterB_first k b (by omega), if_neg (by omega)]
theorem isFixed_letter (k n : Nat) (b : ByteArray) (hk : 1 ≤ k ∧ k ≤ 5) (hb : b.size = n) : isFixed k n (letterB k b) = true := by
  rw [isFixed, letterB_kind k b hk, letterB_size, hb]
  simp
theorem fixedB_letter (k n : Nat) (b : ByteArray) (hk : 1 ≤ k ∧ k ≤ 5) (hb : b.size = n) : fixedB k n (letterB k b) = b := by
  rw [fixedB, if_pos ⟨letterB_kind k b hk, by rw [letterB_size, hb]; exact Nat.le_refl _, by rw [letterB_size, hb]; exact Nat.le_refl _⟩, letterB_rest]

theorem helloB_size (u n : ByteArray) : (helloB u n).size = 2 + u.size + n.size := by
  rw [helloB, ByteArray.size_append, ByteArray.size_append, strOf_size]; rfl
theorem helloB_at0 (u n : ByteArray) : byteAt (helloB u n) 0 = 1 := by
  rw [helloB, ByteArray.append_assoc, byteAt_left _ _ _ (by rw [strOf_size]; simp), byteAt_strOf _ 0 (by simp) (by simp)]
  rfl
theorem helloB_at1 (u n : ByteArray) (hu : u.size < 256) : byteAt (helloB u n) 1 = u.size := by
  rw [helloB, ByteArray.append_assoc, byteAt_left _ _ _ (by rw [strOf_size]; simp), byteAt_strOf _ 1 (by simp) (by simpa using hu)]
  rfl
theorem isHello_helloB (u n : ByteArray) (h : helloOk u n) : isHello (helloB u n) = true := by
  obtain ⟨h1, h2, h3⟩ := h
  rw [isHello_iff, helloB_at0, helloB_at1 u n (by omega), helloB_size]
  omega
theorem helloUser_helloB (u n : ByteArray) (h : helloOk u n) : helloUser (helloB u n) = u := by
  obtain ⟨h1, h2, h3⟩ := h
  rw [helloUser, helloB_at1 u n (by omega), helloB]
  have hs : (strOf [1, u.size]).size = 2 := strOf_size _
  rw [ByteArray.append_assoc, ByteArray.extract_append, hs]
  have e1 : (strOf [1, u.size]).extract 2 (2 + u.size) = ByteArray.empty := by
    apply ByteArray.ext
    apply Array.ext_getElem?
    intro i
    simp only [ByteArray.data_extract, Array.getElem?_extract]
    have : (strOf [1, u.size]).data.size = 2 := hs
    split
    · rw [Array.getElem?_eq_none (by omega)]; rfl
    · rfl
  rw [e1, ByteArray.empty_append, Nat.sub_self, Nat.add_sub_cancel_left, ByteArray.extract_append]
  have e2 : n.extract (0 - u.size) (u.size - u.size) = ByteArray.empty := by
    rw [Nat.zero_sub, Nat.sub_self]
    apply ByteArray.ext; simp
  rw [e2, ByteArray.append_empty]
  exact extract_all u

/-! ### a host and the letters of its guest -/
/-- The papers of a session. -/
def papersOf (u a b : ByteArray) : ByteArray := helloB u a ++ letterB 2 b
theorem papersOf_size (u a b : ByteArray) : (papersOf u a b).size = 2 + u.size + a.size + (b.size + 1) := by rw [papersOf, ByteArray.size_append, helloB_size, letterB_size]
/-- A host that waits for a proof. -/
def hostMid (u a b : ByteArray) : HSt := ⟨b, 1, false, u, papersOf u a b, false, ByteArray.empty, ByteArray.empty⟩
theorem gotR_hello (L : List URec) (u a b : ByteArray) (now : Int) (h : helloOk u a) : gotR L (hostNew b) (helloB u a) now = (hostMid u a b, L, letterB 2 b, 0) := by
  unfold gotR
  rw [if_neg (show ¬ (hostNew b).bad = true from Bool.false_ne_true), if_neg (show ¬ (hostNew b).done = true from Bool.false_ne_true), if_pos (show (hostNew b).got = 0 from rfl), if_pos (isHello_helloB u a h), helloUser_helloB u a h]
  rfl
/-- What a host makes of a proof. -/
theorem gotR_proof (L : List URec) (u a b m : ByteArray) (now : Int) (r : URec) (hm : m.size = 32) (hr : recOf L u = some r) (hl : lockedAt L u now = false) :
    gotR L (hostMid u a b) (letterB 3 m) now = if m = proofB r.secret (papersOf u a b) then (⟨b, 2, false, u, papersOf u a b, true, upOf r.secret (papersOf u a b), downOf r.secret (papersOf u a b)⟩, updL L u goodR, letterB 4 (finishB r.secret (papersOf u a b)), 0)
      else (⟨b, 2, true, u, papersOf u a b, false, ByteArray.empty, ByteArray.empty⟩, updL L u (failR now), ByteArray.empty, 3) := by
  unfold gotR
  rw [if_neg (show ¬ (hostMid u a b).bad = true from Bool.false_ne_true), if_neg (show ¬ (hostMid u a b).done = true from Bool.false_ne_true), if_neg (show ¬ (hostMid u a b).got = 0 from Nat.one_ne_zero)]
  have hp : provedR L { hostMid u a b with got := (hostMid u a b).got + 1 } (letterB 3 m) now = if m = proofB r.secret (papersOf u a b) then (⟨b, 2, false, u, papersOf u a b, true, upOf r.secret (papersOf u a b), downOf r.secret (papersOf u a b)⟩, updL L u goodR, letterB 4 (finishB r.secret (papersOf u a b)), 0)
      else (⟨b, 2, false, u, papersOf u a b, false, ByteArray.empty, ByteArray.empty⟩, updL L u (failR now), ByteArray.empty, 3) := by
    unfold provedR
    rw [if_pos (isFixed_letter 3 32 m (by omega) hm), show recOf L ({ hostMid u a b with got := (hostMid u a b).got + 1 } : HSt).user = some r from hr]
    simp only
    rw [show lockedAt L ({ hostMid u a b with got := (hostMid u a b).got + 1 } : HSt).user now = false from hl, if_neg Bool.false_ne_true, fixedB_letter 3 32 m (by omega) hm]
    rfl
  rw [hp]
  by_cases e : m = proofB r.secret (papersOf u a b)
  · rw [if_pos e, if_pos e]; rfl
  · rw [if_neg e, if_neg e]; rfl
theorem gotR_refuse (L : List URec) (u a b m : ByteArray) (now : Int) (hm : m.size = 32) (hl : recOf L u = none ∨ lockedAt L u now = true) :
    gotR L (hostMid u a b) (letterB 3 m) now = (⟨b, 2, true, u, papersOf u a b, false, ByteArray.empty, ByteArray.empty⟩, L, ByteArray.empty, 6) := by
  unfold gotR
  rw [if_neg (show ¬ (hostMid u a b).bad = true from Bool.false_ne_true), if_neg (show ¬ (hostMid u a b).done = true from Bool.false_ne_true), if_neg (show ¬ (hostMid u a b).got = 0 from Nat.one_ne_zero)]
  have hp : provedR L { hostMid u a b with got := (hostMid u a b).got + 1 } (letterB 3 m) now = (⟨b, 2, false, u, papersOf u a b, false, ByteArray.empty, ByteArray.empty⟩, L, ByteArray.empty, 6) := by
    unfold provedR
    rw [if_pos (isFixed_letter 3 32 m (by omega) hm)]
    rcases hl with hl | hl
    · rw [show recOf L ({ hostMid u a b with got := (hostMid u a b).got + 1 } : HSt).user = none from hl]
      rfl
    · cases hr : recOf L ({ hostMid u a b with got := (hostMid u a b).got + 1 } : HSt).user with
      | none => rfl
      | some r =>
        simp only
        rw [show lockedAt L ({ hostMid u a b with got := (hostMid u a b).got + 1 } : HSt).user now = true from hl, if_pos rfl]
        rfl
  rw [hp]
  rfl
theorem gotR_over (L : List URec) (h : HSt) (b : ByteArray) (now : Int) (ho : h.bad = true ∨ h.done = true) : gotR L h b now = (h, L, ByteArray.empty, 7) := by
  unfold gotR
  by_cases h1 : h.bad = true
  · rw [if_pos h1]
  · rw [if_neg h1, if_pos (ho.resolve_left h1)]

/-- What a host does to the users leaves names, secrets and blocks alone. -/
theorem updL_same {L : List URec} {s : ByteArray} {f : URec → URec} (hf : Keeps f) : (updL L s f).map (fun r => (r.name, r.secret, r.blk)) = L.map (fun r => (r.name, r.secret, r.blk)) := by
  rw [updL, List.map_map]
  apply List.map_congr_left
  intro r _
  simp only [Function.comp]
  split
  · rw [(hf r).1, (hf r).2.1, (hf r).2.2]
  · rfl
theorem provedR_same (L : List URec) (h : HSt) (b : ByteArray) (now : Int) : (provedR L h b now).2.1.map (fun r => (r.name, r.secret, r.blk)) = L.map (fun r => (r.name, r.secret, r.blk)) := by
  unfold provedR
  split
  · split
    · rfl
    · split
      · rfl
      · split
        · exact updL_same goodR_keeps
        · exact updL_same (failR_keeps now)
  · rfl
theorem gotR_same (L : List URec) (h : HSt) (b : ByteArray) (now : Int) : (gotR L h b now).2.1.map (fun r => (r.name, r.secret, r.blk)) = L.map (fun r => (r.name, r.secret, r.blk)) := by
  unfold gotR
  split
  · rfl
  · split
    · rfl
    · split
      · split <;> rfl
      · exact provedR_same L _ b now
theorem same_mem {L L' : List URec} (h : L'.map (fun r => (r.name, r.secret, r.blk)) = L.map (fun r => (r.name, r.secret, r.blk))) {r : URec} (hr : r ∈ L') : ∃ x ∈ L, x.name = r.name ∧ x.secret = r.secret ∧ x.blk = r.blk := by
  have h1 : (r.name, r.secret, r.blk) ∈ L.map (fun r => (r.name, r.secret, r.blk)) := by rw [← h]; exact List.mem_map_of_mem (f := fun r : URec => (r.name, r.secret, r.blk)) hr
  rw [List.mem_map] at h1
  obtain ⟨x, hx, e⟩ := h1
  simp only [Prod.mk.injEq] at e
  exact ⟨x, hx, e.1, e.2.1, e.2.2⟩

/-! ### a guest, a host and their users, side by side -/
/-- Guest g, host hb and users ub stand so in W; what they may write lies at base or above. -/
structure Sess (base ub g hb : Nat) (L : List URec) (gc : Array Value) (h : HSt) (W : World) : Prop where
  users : UsersAt W ub L
  guest : Blk W g 90 gc
  host : Blk W hb 123 (hostC ub h)
  lowG : base ≤ g
  lowH : base ≤ hb
  lowU : ∀ r ∈ L, base ≤ r.blk
  secs : ∀ r ∈ L, r.secret.size ≤ 100000
  ok : HostOk h
theorem Sess.below {base ub g hb : Nat} {L : List URec} {gc : Array Value} {h : HSt} {W W' : World} (s : Sess base ub g hb L gc h W) (hb' : Below W.heap.size W W') : Sess base ub g hb L gc h W' :=
  ⟨s.users.below hb', Blk.below s.guest hb', Blk.below s.host hb', s.lowG, s.lowH, s.lowU, s.secs, s.ok⟩
theorem Sess.got {base ub g hb : Nat} {L : List URec} {gc : Array Value} {h : HSt} {b : ByteArray} {now : Int} {e : Ending} {W W' : World} (s : Sess base ub g hb L gc h W) (hg : h.got ≤ 999999) (hbs : b.size ≤ 900000) (he : HostEnd hb ub L W (gotR L h b now) e W') :
    e = .returned (.tuple #[.string (gotR L h b now).2.2.1, .int .i64 ((gotR L h b now).2.2.2 : Int)]) ∧ Sess base ub g hb (gotR L h b now).2.1 gc (gotR L h b now).1 W' ∧ Chg (fun k => base ≤ k) W W' := by
  obtain ⟨h1, h2, h3, h4⟩ := he
  have hsame := gotR_same L h b now
  refine ⟨h1, ⟨h3, ?_, h2, s.lowG, s.lowH, ?_, ?_, s.ok.got_any hg hbs⟩, h4.mono ?_⟩
  · refine h4.block s.guest ?_
    rintro (e | ⟨r, hr, e⟩)
    · exact blk_ne s.guest s.host (by decide) e
    · exact blk_ne (s.users.cells r hr) s.guest (by decide) e
  · intro r hr
    obtain ⟨x, hx, _, _, e⟩ := same_mem hsame hr
    rw [← e]; exact s.lowU x hx
  · intro r hr
    obtain ⟨x, hx, _, e, _⟩ := same_mem hsame hr
    rw [← e]; exact s.secs x hx
  · rintro k _ (rfl | ⟨r, hr, rfl⟩)
    · exact s.lowH
    · exact s.lowU r hr
theorem usersBlk_guest {w : World} {ub g : Nat} {L : List URec} {cs : Array Value} (h : UsersAt w ub L) (hB : Blk w g 90 cs) : ¬ UsersBlk w ub L g := by
  rintro (rfl | ⟨r, hr, e⟩ | hm)
  · obtain ⟨mb, h1, _⟩ := h.map
    exact blk_ne h1 hB (by decide) rfl
  · exact blk_ne (h.cells r hr) hB (by decide) e
  · obtain ⟨mb, h1, h2⟩ := h.map
    have e := h1.symm.trans hm
    injection e with e
    injection e with e _ _
    have e2 : mb = g := by
      have := congrArg (fun a : Array Value => a[0]?) e
      simp at this
      exact this
    subst e2
    obtain ⟨D, ⟨es, clock, h5, _⟩, _⟩ := h2
    have e3 := h5.symm.trans hB
    injection e3 with e3
    cases e3
theorem Sess.turn {base ub g hb : Nat} {L : List URec} {gc gc' : Array Value} {h : HSt} {W W' : World} (s : Sess base ub g hb L gc h W) (hG : Blk W' g 90 gc') (hg : W.grownBy W' (some g)) : Sess base ub g hb L gc' h W' ∧ Chg (fun k => base ≤ k) W W' :=
  ⟨⟨s.users.chg (S := fun k => k = g) (Chg.of_grown hg rfl) (fun _ _ hk e => usersBlk_guest s.users s.guest (e ▸ hk)), hG, blk_grown s.host hg (fun e => by cases e; exact blk_ne s.guest s.host (by decide) rfl), s.lowG, s.lowH, s.lowU, s.secs, s.ok⟩, (Chg.of_grown (S := fun k => k = g) hg rfl).mono (fun k _ e => by rw [e]; exact s.lowG)⟩
end Go.Proofs.YtkcfbipnhnboaaaGreat

namespace Go.Proofs.YtkcfbipnhnboaaaGreat

def annB : ByteArray := ⟨#[97, 110, 110]⟩
def sB : ByteArray := ⟨#[115]⟩
def nonceA : ByteArray := ⟨#[48, 49, 50, 51, 52, 53, 54, 55, 56, 57, 97, 98, 99, 100, 101, 102]⟩
def nonceZ : ByteArray := ⟨#[102, 101, 100, 99, 98, 97, 57, 56, 55, 54, 53, 52, 51, 50, 49, 48]⟩
set_option maxRecDepth 100000 in
theorem keys_differ : ((upOf (fillB sB 32) (papersOf annB nonceA nonceZ)).data.toList == (downOf (fillB sB 32) (papersOf annB nonceA nonceZ)).data.toList) = false := by decide +kernel
theorem keys_ne : ¬ upOf (fillB sB 32) (papersOf annB nonceA nonceZ) = downOf (fillB sB 32) (papersOf annB nonceA nonceZ) := by
  intro e
  have h := keys_differ
  rw [e] at h
  simp at h
theorem ann_ok : helloOk annB nonceA := by unfold helloOk annB nonceA; decide
theorem ann_user : userOk annB (fillB sB 32) = true := by
  rw [userOk_iff, fillB_size]
  exact ⟨by decide +kernel, rfl⟩
end Go.Proofs.YtkcfbipnhnboaaaGreat

namespace Go.Proofs.YtkcfbipnhnboaaaGreat
open Go.RowKit Go.Maps Go.WideMaps

theorem recOf_app (L : List URec) (r : URec) (s : ByteArray) : recOf (L ++ [r]) s = match recOf L s with | some x => some x | none => if r.name = s then some r else none := by
  rw [recOf, List.find?_append, recOf]
  cases List.find? (fun r => decide (r.name = s)) L with
  | some x => rfl
  | none =>
    simp only [Option.none_or, List.find?_cons, List.find?_nil]
    by_cases h : r.name = s <;> simp [h]
theorem blkOf_app (L : List URec) (r : URec) (h : recOf L r.name = none) : blkOf (L ++ [r]) = fun s => if s = r.name then (r.blk : Int) else blkOf L s := by
  funext s
  by_cases e : s = r.name
  · subst e
    rw [if_pos rfl, blkOf, recOf_app, h]
    simp
  · rw [if_neg e, blkOf, blkOf, recOf_app]
    cases recOf L s with
    | some x => rfl
    | none => simp [Ne.symm e]
theorem recOf_none_iff (L : List URec) (s : ByteArray) : recOf L s = none ↔ s ∉ L.map URec.name := by
  rw [recOf, List.find?_eq_none]
  simp only [decide_eq_true_eq, List.mem_map, not_exists, not_and]
/-- One user more. -/
theorem UsersAt.add {W W' : World} {ub mb : Nat} {L : List URec} {r : URec} (h : UsersAt W ub L) (hmb : Blk W ub 108 #[.map (some mb)]) (hr : recOf L r.name = none) (hf : r.fails < 3) (hrb : r.blk = W.heap.size)
    (hm : UMap Tryz.prog 9 W' mb (L.length + 1) (fun s' => if s' = r.name then (r.blk : Int) else blkOf L s')) (hg : (W.alloc (.cells r.cells 111)).grownBy W' (some mb)) : UsersAt W' ub (L ++ [r]) := by
  have hub : ub ≠ mb := by
    rintro rfl
    obtain ⟨mb2, h1, h2⟩ := h.map
    have e := h1.symm.trans hmb
    injection e with e
    injection e with e _ _
    have e2 : mb2 = ub := by
      have := congrArg (fun a : Array Value => a[0]?) e
      simp at this
      exact this
    subst e2
    obtain ⟨D, ⟨es, clock, h5, _⟩, _⟩ := h2
    have e3 := h5.symm.trans hmb
    injection e3 with e3
    cases e3
  have hcell : ∀ x ∈ L, x.blk ≠ mb := by
    intro x hx e
    obtain ⟨mb2, h1, h2⟩ := h.map
    have e1 := h1.symm.trans hmb
    injection e1 with e1
    injection e1 with e1 _ _
    have e2 : mb2 = mb := by
      have := congrArg (fun a : Array Value => a[0]?) e1
      simp at this
      exact this
    subst e2
    obtain ⟨D, ⟨es, clock, h5, _⟩, _⟩ := h2
    have e3 := h5.symm.trans (e ▸ h.cells x hx)
    injection e3 with e3
    cases e3
  have hmbl : mb < W.heap.size := by
    obtain ⟨mb2, h1, h2⟩ := h.map
    have e1 := h1.symm.trans hmb
    injection e1 with e1
    injection e1 with e1 _ _
    have e2 : mb2 = mb := by
      have := congrArg (fun a : Array Value => a[0]?) e1
      simp at this
      exact this
    subst e2
    exact h2.lt
  refine ⟨⟨mb, ?_, ?_⟩, ?_, ?_, ?_, ?_⟩
  · exact (hg.block ub (by simp; have := Blk.lt hmb; omega) (by simp; exact hub)).trans (Blk.alloc hmb _)
  · rw [List.length_append, blkOf_app L r hr]; exact hm
  · intro x hx
    rw [List.mem_append, List.mem_singleton] at hx
    rcases hx with hx | rfl
    · exact (hg.block x.blk (by simp; have := Blk.lt (h.cells x hx); omega) (by simp; exact hcell x hx)).trans (Blk.alloc (h.cells x hx) _)
    · rw [hrb]
      exact (hg.block W.heap.size (by simp) (by simp; omega)).trans (Blk.new W _)
  · rw [List.map_append, List.nodup_append]
    refine ⟨h.apart, by simp, ?_⟩
    intro a ha b hb e
    rw [List.mem_map] at ha
    obtain ⟨x, hx, rfl⟩ := ha
    simp at hb
    have := Blk.lt (h.cells x hx)
    omega
  · rw [List.map_append, List.nodup_append]
    refine ⟨h.names, by simp, ?_⟩
    intro a ha b hb e
    simp at hb
    subst hb
    exact (recOf_none_iff L r.name).1 hr (e ▸ ha)
  · intro x hx
    rw [List.mem_append, List.mem_singleton] at hx
    rcases hx with hx | rfl
    · exact h.few x hx
    · exact hf

/-- A new user's record. -/
def newRec (p : ByteArray × ByteArray) (g : Nat) : URec := ⟨p.1, p.2, g, 0, false, 0⟩
/-- These are the users of a list, all new. -/
def FreshOf (L : List URec) (l : List (ByteArray × ByteArray)) : Prop := L.map (fun r => (r.name, r.secret)) = l ∧ ∀ r ∈ L, r.fails = 0 ∧ r.locked = false ∧ r.till = 0
/-- A slice's cells are these users. -/
def UsersIn (w : World) (sb : Nat) (l : List (ByteArray × ByteArray)) : Prop := ∀ i, i < l.length → w.cell? ⟨sb, i * 2, none⟩ = some (.string (l.getD i (ByteArray.empty, ByteArray.empty)).1) ∧ w.cell? ⟨sb, i * 2 + 1, none⟩ = some (.string (l.getD i (ByteArray.empty, ByteArray.empty)).2)
/-- Users that may be. -/
def UsersOk (l : List (ByteArray × ByteArray)) : Prop := l.length ≤ 20 ∧ (∀ p ∈ l, userOk p.1 p.2 = true) ∧ (l.map Prod.fst).Nodup

/-- What New hands back. -/
def NewEnd (l : List (ByteArray × ByteArray)) (w : World) (e : Ending) (w' : World) : Prop :=
  ∃ ub L, e = .returned (.tuple #[.pointer (some ⟨ub, 0, none⟩), .int .i64 0]) ∧ w.heap.size ≤ ub ∧ UsersAt w' ub L ∧ FreshOf L l ∧ (∀ k, UsersBlk w' ub L k → w.heap.size ≤ k) ∧ Below w.heap.size w w'

theorem map_same {W : World} {ub mb mb2 : Nat} (h : Blk W ub 108 #[.map (some mb)]) (h2 : Blk W ub 108 #[.map (some mb2)]) : mb = mb2 := by
  have e := h.symm.trans h2
  injection e with e
  injection e with e _ _
  have := congrArg (fun a : Array Value => a[0]?) e
  simp at this
  exact this
theorem mapLook {W : World} {ub mb : Nat} {L : List URec} {s : ByteArray} (h : UsersAt W ub L) (hmb : Blk W ub 108 #[.map (some mb)]) (hr : recOf L s = none) (hs : s.size ≤ 1000000) :
    (Instr.lookup 106 (.map (some mb)) (.string s) false).run Tryz.prog W = .ok (.pointer none) W := by
  obtain ⟨mb2, h1, h2⟩ := h.map
  obtain rfl := map_same h1 hmb
  rw [h2.look (t := 106) (e := 109) Tryz.underlying9 Tryz.underlying106 (by kernel_rfl) (s := s) (by unfold maxLen; omega), blkOf_none hr]

theorem mapStore {W : World} {ub mb : Nat} {L : List URec} {u s : ByteArray} (h : UsersAt W ub L) (hmb : Blk W ub 108 #[.map (some mb)]) (hr : recOf L u = none) (hs : u.size ≤ 1000000) (hn : L.length ≤ 1000) :
    ∃ W', (Instr.mapUpdate 106 (.map (some mb)) (.string u) (.pointer (some ⟨W.heap.size, 0, none⟩))).run Tryz.prog (W.alloc (.cells #[.string s, .int .i64 0, .bool false, .int .i64 0] 111)) = .ok () W' ∧ UsersAt W' ub (L ++ [newRec (u, s) W.heap.size]) ∧ (W.alloc (.cells #[.string s, .int .i64 0, .bool false, .int .i64 0] 111)).grownBy W' (some mb) := by
  obtain ⟨mb2, h1, h2⟩ := h.map
  obtain rfl := map_same h1 hmb
  have h3 : UMap Tryz.prog 9 (W.alloc (.cells #[.string s, .int .i64 0, .bool false, .int .i64 0] 111)) mb2 L.length (blkOf L) := h2.of_block (Below.heap_alloc W _ mb2 h2.lt)
  obtain ⟨W', hrun, hm, hg⟩ := h3.store (t := 106) (e := 109) Tryz.underlying9 Tryz.underlying106 (by unfold maxLen; omega) (s := u) (by unfold maxLen; omega) W.heap.size
  exact ⟨W', hrun, h.add (r := newRec (u, s) W.heap.size) hmb hr (Nat.zero_lt_succ _) rfl hm hg, hg⟩

set_option maxHeartbeats 1000000 in
set_option maxRecDepth 100000 in
theorem new_yes (sb : Nat) (l : List (ByteArray × ByteArray)) (c : Nat) (w : World) (hl : UsersOk l) (hsb : sb < w.heap.size) (hI : UsersIn w sb l) : Calls Tryz.prog 28 #[.slice (some ⟨sb, 0, none⟩) l.length c] w (NewEnd l w) := by
  have hmm := @run_makeMap Tryz.prog
  have hl20 := hl.1
  obtain ⟨n, hn⟩ : ∃ n, l.length = n := ⟨_, rfl⟩
  rw [hn] at hl20 ⊢
  have HL : Box _ := ⟨And.intro hl (And.intro hI hn)⟩
  have hng : ¬ 20 < n := by omega
  have hU0 : UsersAt ((w.alloc (.map #[] 0)).alloc (.cells #[.map (some w.heap.size)] 108)) (w.heap.size + 1) [] := by
    refine ⟨⟨w.heap.size, Blk.new_at _ (by simp), ?_⟩, by simp, by simp, by simp, by simp⟩
    exact (UMap.made _ _ w).of_block (Blk.alloc (Blk.new w _) _ |>.trans (Blk.new w _).symm)
  have hB0 : Blk ((w.alloc (.map #[] 0)).alloc (.cells #[.map (some w.heap.size)] 108)) (w.heap.size + 1) 108 #[.map (some w.heap.size)] := Blk.new_at _ (by simp)
  have hb0 : Below w.heap.size w ((w.alloc (.map #[] 0)).alloc (.cells #[.map (some w.heap.size)] 108)) := ((Below.refl _ _).alloc (Nat.le_refl _) _).alloc (by simp) _
  have H0 : Box _ := ⟨And.intro hU0 (And.intro hB0 hb0)⟩
  clear hl hI hn hU0 hB0 hb0
  go_enter Tryz.func28, Tryz.ntmps28
  go_wp2
  go_loopw [15] (fun i wr => ∃ k : Nat, k ≤ n ∧ i = .int .i64 (k : Int) ∧ Box (∃ L, UsersAt wr (w.heap.size + 1) L ∧ FreshOf L (l.take k) ∧ (∀ r ∈ L, w.heap.size ≤ r.blk)) ∧ Box (Blk wr (w.heap.size + 1) 108 #[.map (some w.heap.size)] ∧ Below w.heap.size w wr)) (fun i _ => n - (intOf i).toNat)
  case atStart => exact ⟨0, Nat.zero_le _, rfl, ⟨[], H0.out.1, ⟨rfl, by simp⟩, by simp⟩, ⟨H0.out.2.1, H0.out.2.2⟩⟩
  case round =>
    obtain ⟨k, hk, rfl, HU, HB⟩ := hrel
    by_cases hlt : k < n
    · obtain ⟨L, hUs, hFr, hge⟩ := HU.out
      obtain ⟨p, hp⟩ : ∃ p, l.getD k (ByteArray.empty, ByteArray.empty) = p := ⟨_, rfl⟩
      have hci := HL.out.2.1 k (by rw [HL.out.2.2]; exact hlt)
      rw [hp] at hci
      obtain ⟨u, s⟩ := p
      have c0 : wr.cell? ⟨sb, k * 2, none⟩ = some (.string u) := (HB.out.2.cell (p := ⟨sb, k * 2, none⟩) hsb).trans hci.1
      have c1 : wr.cell? ⟨sb, k * 2 + 1, none⟩ = some (.string s) := (HB.out.2.cell (p := ⟨sb, k * 2 + 1, none⟩) hsb).trans hci.2
      have cu : wr.cell? ⟨w.heap.size + 1, 0, none⟩ = some (.map (some w.heap.size)) := Blk.cell HB.out.1 0
      have HP : Box _ := ⟨And.intro hp (And.intro hUs (And.intro hFr hge))⟩
      clear hp hUs hFr hge hci
      have hmem : (u, s) ∈ l := by
        rw [← HP.out.1, List.getD_eq_getElem?_getD, List.getElem?_eq_getElem (by rw [HL.out.2.2]; exact hlt)]
        exact List.getElem_mem _
      have hok := HL.out.1.2.1 (u, s) hmem
      have hus : u.size ≤ 20 ∧ 1 ≤ u.size := by
        rw [userOk, Bool.and_eq_true, nameOk, Bool.and_eq_true] at hok
        have hz := of_decide_eq_true hok.1.2
        exact ⟨hz.2, hz.1⟩
      have hss : s.size = 32 := by rw [userOk, Bool.and_eq_true] at hok; exact of_decide_eq_true hok.2
      have hnone : recOf L u = none := by
        rw [recOf_none_iff]
        intro hm
        have h2 : L.map URec.name = (l.take k).map Prod.fst := by
          rw [← HP.out.2.2.1.1, List.map_map]; rfl
        rw [h2, List.mem_map] at hm
        obtain ⟨q, hq, hqe⟩ := hm
        obtain ⟨i, hi, rfl⟩ := List.mem_iff_getElem.1 hq
        have hi2 : i < k := by rw [List.length_take] at hi; omega
        have hkl : k < l.length := by rw [HL.out.2.2]; exact hlt
        have hnd := HL.out.1.2.2
        rw [List.getElem_take] at hqe
        have hgk : l[k] = (u, s) := by
          have := HP.out.1
          rw [List.getD_eq_getElem?_getD, List.getElem?_eq_getElem hkl] at this
          exact this
        have h3 := List.pairwise_iff_getElem.1 hnd i k (by rw [List.length_map]; omega) (by rw [List.length_map]; exact hkl) hi2
        apply h3
        rw [List.getElem_map, List.getElem_map, hqe, hgk]
      have HRT : Box (∀ W : World, Calls Tryz.prog 43 #[.agg #[.string u, .string s]] W fun e w' => e = .returned (.bool true) ∧ Below W.heap.size W w') := ⟨fun W => by rw [← hok]; exact right_any_user u s W (by omega)⟩
      have HN : Box _ := ⟨And.intro hok (And.intro hss hnone)⟩
      have hus1 := hus.1
      obtain ⟨wx, hwx⟩ : ∃ wx, wr.alloc (.cells #[.string u, .string s] 23) = wx := ⟨_, rfl⟩
      have hX : Blk wx wr.heap.size 23 #[.string u, .string s] := by rw [← hwx]; exact Blk.new wr _
      have hbx : Below wr.heap.size wr wx := by rw [← hwx]; exact (Below.refl _ _).alloc (Nat.le_refl _) _
      have hUx := HP.out.2.1.below hbx
      have hBx := Blk.below HB.out.1 hbx
      have hbx2 := HB.out.2.trans (hbx.mono HB.out.2.size)
      have HX : Box _ := ⟨And.intro hX (And.intro hUx (And.intro hBx hbx2))⟩
      have d0 : wx.cell? ⟨wr.heap.size, 0, none⟩ = some (.string u) := Blk.cell hX 0
      have d1 : wx.cell? ⟨wr.heap.size, 1, none⟩ = some (.string s) := Blk.cell hX 1
      have du : wx.cell? ⟨w.heap.size + 1, 0, none⟩ = some (.map (some w.heap.size)) := Blk.cell hBx 0
      clear hmem hok hus hss hnone hX hbx hUx hBx hbx2
      go_upto_region 7 with fail
      try rw [hwx]
      clear hwx c0 c1 cu
      go_cut [31] (fun v W => v = .bool false ∧ Box (Below wx.heap.size wx W))
      case first =>
        go_region_held3 (fun W => W.cell? ⟨wr.heap.size, 0, none⟩ = some (.string u) ∧ W.cell? ⟨wr.heap.size, 1, none⟩ = some (.string s) ∧ W.cell? ⟨w.heap.size + 1, 0, none⟩ = some (.map (some w.heap.size))) (first | exact ⟨e0, e1, eu⟩ | go_keep)
          ((go_at_call 43; refine (HRT.out _).mono ?_; rintro e w6 ⟨rfl, hb6⟩; have hb6x := (Below.refl wx.heap.size wx).drew.trans hb6; have e0 : w6.cell? ⟨wr.heap.size, 0, none⟩ = some (.string u) := Blk.cell (Blk.below HX.out.1 hb6x) 0; have e1 : w6.cell? ⟨wr.heap.size, 1, none⟩ = some (.string s) := Blk.cell (Blk.below HX.out.1 hb6x) 1; have eu : w6.cell? ⟨w.heap.size + 1, 0, none⟩ = some (.map (some w.heap.size)) := Blk.cell (Blk.below HX.out.2.2.1 hb6x) 0; have hlk := mapLook (HX.out.2.1.below hb6x) (Blk.below HX.out.2.2.1 hb6x) HN.out.2.2 (by omega); have HB6 := Box.mk hb6x; clear hb6 hb6x))
        all_goals
          go_wp2_with fail
          go_meet
          exact ⟨rfl, HB6⟩
      case rest =>
        obtain ⟨rfl, HW⟩ := hcut
        clear d0 d1 du
        have hXc := Blk.below HX.out.1 HW.out
        have hBc := Blk.below HX.out.2.2.1 HW.out
        have hUc := HX.out.2.1.below HW.out
        have hbc := HX.out.2.2.2.trans (HW.out.mono HX.out.2.2.2.size)
        have d0 : wc.cell? ⟨wr.heap.size, 0, none⟩ = some (.string u) := Blk.cell hXc 0
        have d1 : wc.cell? ⟨wr.heap.size, 1, none⟩ = some (.string s) := Blk.cell hXc 1
        have du : wc.cell? ⟨w.heap.size + 1, 0, none⟩ = some (.map (some w.heap.size)) := Blk.cell hBc 0
        have HC : Box _ := ⟨And.intro hXc (And.intro hBc (And.intro hUc hbc))⟩
        have hss1 : s.size ≤ 32 := by rw [HN.out.2.1]; exact Nat.le_refl _
        clear hXc hBc hUc hbc
        have hLlen : L.length ≤ 1000 := by
          have := congrArg List.length HP.out.2.2.1.1
          rw [List.length_map, List.length_take] at this
          omega
        go_upto_region 9 with fail
        go_region_held3 (fun W => W.cell? ⟨wr.heap.size, 0, none⟩ = some (.string u) ∧ W.cell? ⟨wr.heap.size, 1, none⟩ = some (.string s) ∧ W.cell? ⟨w.heap.size + 1, 0, none⟩ = some (.map (some w.heap.size))) (first | exact ⟨q0, q1, qu⟩ | exact ⟨f0, f1, fu⟩ | exact ⟨e0, e1, eu⟩ | go_keep)
          ((first | (go_at_call_of 58 (Value.string u); refine (clone_any u _ (by omega)).mono ?_; rintro e w6 ⟨rfl, hb6⟩; have hb6x := (Below.refl wc.heap.size wc).drew.trans hb6; have e0 : w6.cell? ⟨wr.heap.size, 0, none⟩ = some (.string u) := Blk.cell (Blk.below HC.out.1 hb6x) 0; have e1 : w6.cell? ⟨wr.heap.size, 1, none⟩ = some (.string s) := Blk.cell (Blk.below HC.out.1 hb6x) 1; have eu : w6.cell? ⟨w.heap.size + 1, 0, none⟩ = some (.map (some w.heap.size)) := Blk.cell (Blk.below HC.out.2.1 hb6x) 0; have HB6 := Box.mk hb6x; clear hb6 hb6x) | (go_at_call_of 58 (Value.string s); refine (clone_any s _ (by omega)).mono ?_; rintro e w7 ⟨rfl, hb7⟩; have hb7x := HB6.out.trans (hb7.mono HB6.out.size); have f0 : w7.cell? ⟨wr.heap.size, 0, none⟩ = some (.string u) := Blk.cell (Blk.below HC.out.1 hb7x) 0; have f1 : w7.cell? ⟨wr.heap.size, 1, none⟩ = some (.string s) := Blk.cell (Blk.below HC.out.1 hb7x) 1; have fu : w7.cell? ⟨w.heap.size + 1, 0, none⟩ = some (.map (some w.heap.size)) := Blk.cell (Blk.below HC.out.2.1 hb7x) 0; obtain ⟨w8, hr8, hu8, hg8⟩ := mapStore (u := u) (s := s) (HC.out.2.2.1.below hb7x) (Blk.below HC.out.2.1 hb7x) HN.out.2.2 (by omega) hLlen; have hx8 := blk_grown (Blk.alloc (Blk.below HC.out.1 hb7x) _) hg8 (by simp; have := HB.out.2.size; have := Blk.lt HB.out.1; omega); have hv8 := blk_grown (Blk.alloc (Blk.below HC.out.2.1 hb7x) _) hg8 (by simp); have q0 : w8.cell? ⟨wr.heap.size, 0, none⟩ = some (.string u) := Blk.cell hx8 0; have q1 : w8.cell? ⟨wr.heap.size, 1, none⟩ = some (.string s) := Blk.cell hx8 1; have qu : w8.cell? ⟨w.heap.size + 1, 0, none⟩ = some (.map (some w.heap.size)) := Blk.cell hv8 0; have HB7 := Box.mk hb7x; have H8 := Box.mk (And.intro hu8 (And.intro hg8 hv8)); clear hb7 hb7x hu8 hg8 hx8 hv8)))
        all_goals
          clear d0 d1 du
          have hbw := HC.out.2.2.2.trans (HB7.out.mono HC.out.2.2.2.size)
          have hgo : ∃ g, w.heap.size ≤ g ∧ UsersAt w8 (w.heap.size + 1) (L ++ [newRec (u, s) g]) ∧ Blk w8 (w.heap.size + 1) 108 #[.map (some w.heap.size)] ∧ Below w.heap.size w w8 := by
            refine ⟨_, hbw.size, H8.out.1, H8.out.2.2, ?_⟩
            exact (hbw.alloc hbw.size _).trans (below_of_grown H8.out.2.1 (by simp; have := hbw.size; omega) (by intro q hq; cases hq; exact Nat.le_refl _))
          have HD := Box.mk hgo
          clear hgo hbw
          go_wp2
          obtain ⟨g, hg, hUg, hBg, hbg⟩ := HD.out
          refine ⟨⟨k + 1, by omega, by go_num, ⟨_, hUg, ⟨?_, ?_⟩, ?_⟩, ⟨hBg, hbg⟩⟩, by simp [intOf]; omega⟩
          · rw [List.map_append, HP.out.2.2.1.1, List.take_succ_eq_append_getElem (by rw [HL.out.2.2]; exact hlt)]
            have hkl : k < l.length := by rw [HL.out.2.2]; exact hlt
            have hgk : l[k] = (u, s) := by
              have := HP.out.1
              rw [List.getD_eq_getElem?_getD, List.getElem?_eq_getElem hkl] at this
              exact this
            rw [hgk]
            rfl
          · intro r hr
            rw [List.mem_append, List.mem_singleton] at hr
            rcases hr with hr | rfl
            · exact HP.out.2.2.1.2 r hr
            · exact ⟨rfl, rfl, rfl⟩
          · intro r hr
            rw [List.mem_append, List.mem_singleton] at hr
            rcases hr with hr | rfl
            · exact HP.out.2.2.2 r hr
            · exact hg
    · obtain rfl : k = n := by omega
      obtain ⟨L, hUs, hFr, hge⟩ := HU.out
      have HP : Box _ := ⟨And.intro hUs (And.intro hFr hge)⟩
      clear hUs hFr hge
      go_wp2
      go_ret2
      rw [List.take_of_length_le (by rw [HL.out.2.2]; exact Nat.le_refl _)] at HP
      refine ⟨_, L, rfl, by omega, HP.out.1, HP.out.2.1, ?_, HB.out.2⟩
      rintro q (rfl | ⟨r, hr, rfl⟩ | hq)
      · omega
      · exact HP.out.2.2 r hr
      · rw [map_same hq HB.out.1]; exact Nat.le_refl _
end Go.Proofs.YtkcfbipnhnboaaaGreat

namespace Go.Proofs.YtkcfbipnhnboaaaGreat
open Go.RowKit

theorem fresh_one {L : List URec} {u s : ByteArray} (h : FreshOf L [(u, s)]) : ∃ g, L = [newRec (u, s) g] := by
  obtain ⟨h1, h2⟩ := h
  match L, h1, h2 with
  | [r], h1, h2 =>
    obtain ⟨f1, f2, f3⟩ := h2 r (by simp)
    simp only [List.map_cons, List.map_nil, List.cons.injEq, Prod.mk.injEq, and_true] at h1
    refine ⟨r.blk, ?_⟩
    cases r
    simp only at f1 f2 f3 h1
    rw [f1, f2, f3, h1.1, h1.2]
    rfl
theorem recOf_one (u s : ByteArray) (g : Nat) : recOf [newRec (u, s) g] u = some (newRec (u, s) g) := by
  simp [recOf, newRec]
theorem lockedAt_one (u s : ByteArray) (g : Nat) (now : Int) : lockedAt [newRec (u, s) g] u now = false := by
  rw [lockedAt, recOf_one]; rfl
theorem usersOk_one {u s : ByteArray} (h : userOk u s = true) : UsersOk [(u, s)] := by
  refine ⟨by simp, ?_, by simp⟩
  intro p hp
  rw [List.mem_singleton] at hp
  subst hp
  exact h
theorem usersIn_one (W : World) (u s : ByteArray) : UsersIn (W.alloc (.cells #[.string u, .string s] 23)) W.heap.size [(u, s)] := by
  intro i hi
  have h0 : i = 0 := by simpa using hi
  subst h0
  exact ⟨Blk.cell (Blk.new W _) 0, Blk.cell (Blk.new W _) 1⟩
/-- New, of one user whose cells have just been made. -/
theorem newOne (u s : ByteArray) (W : World) (h : userOk u s = true) : Calls Tryz.prog 28 #[.slice (some ⟨W.heap.size, 0, none⟩) 1 1] (W.alloc (.cells #[.string u, .string s] 23)) fun e w' => ∃ ub g, e = .returned (.tuple #[.pointer (some ⟨ub, 0, none⟩), .int .i64 0]) ∧ W.heap.size ≤ ub ∧ W.heap.size ≤ g ∧ UsersAt w' ub [newRec (u, s) g] ∧ Below W.heap.size W w' := by
  refine (new_yes W.heap.size [(u, s)] 1 _ (usersOk_one h) (by simp) (usersIn_one W u s)).mono ?_
  rintro e w' ⟨ub, L, rfl, h1, h2, h3, h4, h5⟩
  obtain ⟨g, rfl⟩ := fresh_one h3
  have h6 := h4 g (.inr (.inl ⟨_, List.mem_singleton.2 rfl, rfl⟩))
  simp only [World.size_alloc] at h1 h6
  exact ⟨ub, g, rfl, by omega, by omega, h2, ((Below.refl _ _).alloc (Nat.le_refl _) _).trans (h5.mono (by simp))⟩

theorem below_chg {B : Nat} {w W W' : World} (h : Below B w W) (hB : B ≤ W.heap.size) (hc : Chg (fun k => B ≤ k) W W') : Below B w W' := h.trans (hc.below hB (fun _ h => h))

set_option maxHeartbeats 2000000 in
set_option maxRecDepth 100000 in
theorem alive_any (w : World) : Calls Tryz.prog 12 #[] w fun e w' => e = .returned (.bool true) ∧ Below w.heap.size w w' := by
  have hkn := keys_ne
  have hau := ann_user
  have hs32 : (fillB sB 32).size = 32 := fillB_size _ _
  have HF : Box (∀ W : World, Calls Tryz.prog 16 #[.string ⟨#[115]⟩, .int .i64 32] W fun e w' => e = .returned (.string (fillB sB 32)) ∧ W = w') := ⟨fun W => fill_any sB 32 W (by omega)⟩
  obtain ⟨s, hs⟩ : ∃ s, fillB sB 32 = s := ⟨_, rfl⟩
  rw [hs] at hkn hau hs32 HF
  have HN : Box (∀ W : World, Calls Tryz.prog 28 #[.slice (some ⟨W.heap.size, 0, none⟩) 1 1] (W.alloc (.cells #[.string ⟨#[97, 110, 110]⟩, .string s] 23)) fun e w' => ∃ ub g, e = .returned (.tuple #[.pointer (some ⟨ub, 0, none⟩), .int .i64 0]) ∧ W.heap.size ≤ ub ∧ W.heap.size ≤ g ∧ UsersAt w' ub [newRec (annB, s) g] ∧ Below W.heap.size W w') := ⟨fun W => newOne annB s W hau⟩
  have HNG : Box (∀ W : World, Calls Tryz.prog 13 #[.agg #[.string ⟨#[97, 110, 110]⟩, .string s], .string ⟨#[48, 49, 50, 51, 52, 53, 54, 55, 56, 57, 97, 98, 99, 100, 101, 102]⟩] W fun e w' => ∃ g, W.heap.size ≤ g ∧ e = .returned (.pointer (some ⟨g, 0, none⟩)) ∧ Blk w' g 90 (guestC annB s (helloB annB nonceA) ByteArray.empty 0) ∧ Below W.heap.size W w') := ⟨fun W => by
    refine (newGuest_any annB s nonceA W (by decide)).mono ?_
    rw [hau, show decide (nonceA.size = 16) = true from rfl]
    intro e w' h
    exact h⟩
  have HNH : Box (∀ (W : World) (ub : Nat), Calls Tryz.prog 29 #[.pointer (some ⟨ub, 0, none⟩), .string ⟨#[102, 101, 100, 99, 98, 97, 57, 56, 55, 54, 53, 52, 51, 50, 49, 48]⟩] W fun e w' => e = .returned (.pointer (some ⟨W.heap.size, 0, none⟩)) ∧ Blk w' W.heap.size 123 (hostC ub (hostNew nonceZ)) ∧ Below W.heap.size W w') := ⟨fun W ub => newHost_yes ub nonceZ W rfl⟩
  have hpz := papersOf_size annB nonceA nonceZ
  have hhz := helloB_size annB nonceA
  have hcz := letterB_size 2 nonceZ
  have e1 : annB.size = 3 := rfl
  have e2 : nonceA.size = 16 := rfl
  have e3 : nonceZ.size = 16 := rfl
  rw [e1, e2, e3] at hpz
  rw [e1, e2] at hhz
  rw [e3] at hcz
  have hr1 : ∀ L, gotR L (hostNew nonceZ) (helloB annB nonceA) 1 = (hostMid annB nonceA nonceZ, L, letterB 2 nonceZ, 0) := fun L => gotR_hello L annB nonceA nonceZ 1 ann_ok
  have hpm := proofB_size s (papersOf annB nonceA nonceZ)
  have hfm := finishB_size s (papersOf annB nonceA nonceZ)
  have hr2 : ∀ g, gotR [newRec (annB, s) g] (hostMid annB nonceA nonceZ) (letterB 3 (proofB s (papersOf annB nonceA nonceZ))) 2 = (⟨nonceZ, 2, false, annB, papersOf annB nonceA nonceZ, true, upOf s (papersOf annB nonceA nonceZ), downOf s (papersOf annB nonceA nonceZ)⟩, updL [newRec (annB, s) g] annB goodR, letterB 4 (finishB s (papersOf annB nonceA nonceZ)), 0) := fun g => by
    rw [gotR_proof _ annB nonceA nonceZ _ 2 _ hpm (recOf_one annB s g) (lockedAt_one annB s g 2), if_pos (show proofB s (papersOf annB nonceA nonceZ) = proofB (newRec (annB, s) g).secret (papersOf annB nonceA nonceZ) from rfl)]
    rfl
  have hf1 := isFixed_letter 2 16 nonceZ (by omega) rfl
  have hf2 := isFixed_letter 4 32 _ (by omega) hfm
  have hf3 := fixedB_letter 4 32 _ (by omega) hfm
  have hpp : helloB annB nonceA ++ letterB 2 nonceZ = papersOf annB nonceA nonceZ := rfl
  have hku : (upOf s (papersOf annB nonceA nonceZ)).size = 32 := keyOf_size _ _ _
  obtain ⟨hl, hhl⟩ : ∃ hl, helloB annB nonceA = hl := ⟨_, rfl⟩
  obtain ⟨c, hc⟩ : ∃ c, letterB 2 nonceZ = c := ⟨_, rfl⟩
  obtain ⟨p, hp⟩ : ∃ p, papersOf annB nonceA nonceZ = p := ⟨_, rfl⟩
  obtain ⟨hm, hhm⟩ : ∃ hm, hostMid annB nonceA nonceZ = hm := ⟨_, rfl⟩
  have hmg : hm.got = 1 := by rw [← hhm]; rfl
  rw [hhl] at HNG hhz hr1 hpp
  rw [hc] at hcz hr1 hf1 hpp
  rw [hp] at hpz hpm hfm hr2 hf2 hf3 hpp hkn hku
  rw [hhm] at hr1 hr2
  obtain ⟨pm, hpm2⟩ : ∃ pm, letterB 3 (proofB s p) = pm := ⟨_, rfl⟩
  obtain ⟨fm, hfm2⟩ : ∃ fm, letterB 4 (finishB s p) = fm := ⟨_, rfl⟩
  obtain ⟨ku, hku2⟩ : ∃ ku, upOf s p = ku := ⟨_, rfl⟩
  obtain ⟨kd, hkd2⟩ : ∃ kd, downOf s p = kd := ⟨_, rfl⟩
  have hpmz : pm.size ≤ 1000 := by rw [← hpm2, letterB_size, hpm]; decide
  have hfmz : fm.size ≤ 1000 := by rw [← hfm2, letterB_size, hfm]; decide
  rw [hpm2, hfm2, hku2, hkd2] at hr2
  rw [hfm2] at hf2 hf3
  rw [hku2, hkd2] at hkn
  rw [hku2] at hku
  have hFin : ∀ (g : Nat) (W : World) (e : Ending) (w' : World), FinishEnd g annB s hl p (fixedB 4 32 fm) W e w' → e = .returned (.tuple #[.agg #[.string ku, .string kd], .int .i64 0]) ∧ Blk w' g 90 (guestC annB s hl p 2) ∧ W.grownBy w' (some g) := fun g W e w' h => by
    unfold FinishEnd at h
    rw [hf3, if_pos rfl, hku2, hkd2] at h
    exact h
  have HCH : Box (∀ (g : Nat) (W : World), Blk W g 90 (guestC annB s hl ByteArray.empty 0) → Calls Tryz.prog 18 #[.pointer (some ⟨g, 0, none⟩), .string c] W fun e w' => e = .returned (.tuple #[.string pm, .int .i64 0]) ∧ Blk w' g 90 (guestC annB s hl p 1) ∧ W.grownBy w' (some g)) := ⟨fun g W h => by
    have := challenge_yes g annB s hl ByteArray.empty c W (by omega) (by omega) (by omega) (by omega) hf1 h
    rw [hpp, hpm2] at this
    exact this⟩
  have HFI : Box (∀ (g : Nat) (W : World), Blk W g 90 (guestC annB s hl p 1) → Calls Tryz.prog 22 #[.pointer (some ⟨g, 0, none⟩), .string fm] W fun e w' => e = .returned (.tuple #[.agg #[.string ku, .string kd], .int .i64 0]) ∧ Blk w' g 90 (guestC annB s hl p 2) ∧ W.grownBy w' (some g)) := ⟨fun g W h => (finish_mac g annB s hl p fm W (by omega) (by omega) (by omega) (by omega) hf2 h).mono (hFin g W)⟩
  have HR : Box _ := ⟨And.intro hr1 hr2⟩
  have hkz1 : ((ku.size : Int) == 32) = true := by rw [hku]; rfl
  have hkd1 : (ku.toList == kd.toList) = false := strNe hkn
  have hkd3 : ¬ ku.toList = kd.toList := by simpa using hkd1
  have hss : s.size ≤ 100000 := by omega
  have hlz : hl.size ≤ 100 := by omega
  have hcz2 : c.size ≤ 100 := by omega
  have HK : Box _ := ⟨And.intro hkz1 (And.intro hkd1 hkd3)⟩
  have HMG : Box _ := ⟨hmg⟩
  clear hkn hau hs hr1 hr2 hf1 hf2 hf3 hpp hku hhl hc hp hhm hpm2 hfm2 hku2 hkd2 hFin hpm hfm hpz hhz hcz e1 e2 e3 hkz1 hkd1 hkd3 hs32 hmg
  go_enter Tryz.func12, Tryz.ntmps12
  go_wp2_with fail
  refine (HF.out _).mono ?_
  rintro e w0 ⟨rfl, rfl⟩
  go_wp2_with fail
  refine (HN.out _).mono ?_
  rintro e w1 ⟨ub, gu, rfl, hub, hgu, hU1, hb1⟩
  have H1 : Box _ := ⟨And.intro hgu (And.intro hU1 hb1)⟩
  clear hub hgu hU1 hb1
  go_wp2_with fail
  refine (HNG.out _).mono ?_
  rintro e w2 ⟨g, hg, rfl, hG2, hb2⟩
  have H2 : Box _ := ⟨And.intro hG2 (And.intro (Nat.le_trans H1.out.2.2.size hg) (And.intro (H1.out.2.1.below hb2) (H1.out.2.2.trans (hb2.mono H1.out.2.2.size))))⟩
  clear hg hG2 hb2
  go_wp2_with fail
  refine (HNH.out _ ub).mono ?_
  rintro e w3 ⟨rfl, hH3, hb3⟩
  have hS3 : Sess w.heap.size ub g w2.heap.size [newRec (annB, s) gu] (guestC annB s hl ByteArray.empty 0) (hostNew nonceZ) w3 :=
    ⟨H2.out.2.2.1.below hb3, Blk.below H2.out.1 hb3, hH3, H2.out.2.1, H2.out.2.2.2.size, by intro r hr; rw [List.mem_singleton] at hr; subst hr; exact H1.out.1, by intro r hr; rw [List.mem_singleton] at hr; subst hr; exact hss, hostOk_new rfl⟩
  have H3 : Box _ := ⟨And.intro hS3 (H2.out.2.2.2.trans (hb3.mono H2.out.2.2.2.size))⟩
  clear hH3 hb3 hS3
  obtain ⟨hb, hhb⟩ : ∃ hb, w2.heap.size = hb := ⟨_, rfl⟩
  rw [hhb] at H3 ⊢
  clear hhb
  go_wp2_with fail
  refine (gHello_any g annB s hl ByteArray.empty 0 _ H3.out.1.guest).mono ?_
  rintro e w4 ⟨rfl, rfl⟩
  go_wp2_with fail
  refine (got_any hb ub _ (hostNew nonceZ) hl 1 _ (by omega) (Nat.zero_le _) H3.out.1.ok H3.out.1.secs (by decide) (by decide) H3.out.1.host H3.out.1.users).mono ?_
  intro e w4 he
  obtain ⟨rfl, hS4, hc4⟩ := H3.out.1.got (Nat.zero_le _) (by omega) he
  rw [HR.out.1] at hS4 ⊢
  have H4 : Box _ := ⟨And.intro hS4 (below_chg H3.out.2 H3.out.2.size hc4)⟩
  clear hS4 hc4 he
  go_wp2_with fail
  refine (HCH.out g _ H4.out.1.guest).mono ?_
  rintro e w5 ⟨rfl, hG5, hg5⟩
  have hS5 := H4.out.1.turn hG5 hg5
  have H5 : Box _ := ⟨And.intro hS5.1 (below_chg H4.out.2 H4.out.2.size hS5.2)⟩
  clear hG5 hg5 hS5
  go_wp2_with fail
  refine (got_any hb ub _ hm pm 2 _ (by omega) (by rw [HMG.out]; decide) H5.out.1.ok H5.out.1.secs (by decide) (by decide) H5.out.1.host H5.out.1.users).mono ?_
  intro e w6 he
  obtain ⟨rfl, hS6, hc6⟩ := H5.out.1.got (by rw [HMG.out]; decide) (by omega) he
  rw [HR.out.2] at hS6 ⊢
  have H6 : Box _ := ⟨And.intro hS6 (below_chg H5.out.2 H5.out.2.size hc6)⟩
  clear hS6 hc6 he
  go_wp2_with fail
  refine (HFI.out g _ H6.out.1.guest).mono ?_
  rintro e w7 ⟨rfl, hG7, hg7⟩
  have hS7 := H6.out.1.turn hG7 hg7
  have H7 : Box _ := ⟨And.intro hS7.1 (below_chg H6.out.2 H6.out.2.size hS7.2)⟩
  clear hG7 hg7 hS7
  go_upto_region 10 with fail
  obtain ⟨wz, hwz⟩ : ∃ wz, w7.alloc (.cells #[.string ku, .string kd] 44) = wz := ⟨_, rfl⟩
  rw [hwz]
  have hal : Below w7.heap.size w7 wz := by rw [← hwz]; exact (Below.refl _ _).alloc (Nat.le_refl _) _
  have hK8 : Blk wz w7.heap.size 44 #[.string ku, .string kd] := by rw [← hwz]; exact Blk.new w7 _
  have H8 : Box _ := ⟨And.intro (H7.out.1.below hal) (And.intro (H7.out.2.trans (hal.mono H7.out.2.size)) hK8)⟩
  have cku : wz.cell? ⟨w7.heap.size, 0, none⟩ = some (.string ku) := Blk.cell hK8 0
  have ckd : wz.cell? ⟨w7.heap.size, 1, none⟩ = some (.string kd) := Blk.cell hK8 1
  have HDN : Box (∀ W : World, Below wz.heap.size wz W → Calls Tryz.prog 31 #[.pointer (some ⟨hb, 0, none⟩)] W fun e w' => e = .returned (.bool true) ∧ W = w') := ⟨fun W hW => hDone_any hb ub _ W (H8.out.1.below hW).host⟩
  have HUS : Box (∀ W : World, Below wz.heap.size wz W → Calls Tryz.prog 32 #[.pointer (some ⟨hb, 0, none⟩)] W fun e w' => e = .returned (.string ⟨#[97, 110, 110]⟩) ∧ W = w') := ⟨fun W hW => hUser_any hb ub _ W (H8.out.1.below hW).host⟩
  have HKS : Box (∀ W : World, Below wz.heap.size wz W → Calls Tryz.prog 33 #[.pointer (some ⟨hb, 0, none⟩)] W fun e w' => e = .returned (.agg #[.string ku, .string kd]) ∧ Below W.heap.size W w') := ⟨fun W hW => hKeys_any hb ub _ W (H8.out.1.below hW).host⟩
  have HST : Box (∀ W : World, Below wz.heap.size wz W → Calls Tryz.prog 20 #[.pointer (some ⟨g, 0, none⟩)] W fun e w' => e = .returned (.int .i64 2) ∧ W = w') := ⟨fun W hW => gStep_any g annB s hl p 2 W (H8.out.1.below hW).guest⟩
  have hk1 := HK.out.1
  have hk2 := HK.out.2.1
  have hk3 := HK.out.2.2
  clear hwz hal hK8
  go_region_held3 (fun W => W.cell? ⟨w7.heap.size, 0, none⟩ = some (.string ku) ∧ W.cell? ⟨w7.heap.size, 1, none⟩ = some (.string kd)) (first | exact ⟨Blk.cell (Blk.below H8.out.2.2 HB9.out) 0, Blk.cell (Blk.below H8.out.2.2 HB9.out) 1⟩ | go_keep)
    ((first
      | (go_at_call 31; refine (HDN.out _ (Below.refl _ _).drew).mono ?_; rintro e w8 ⟨rfl, rfl⟩)
      | (go_at_call 32; refine (HUS.out _ (Below.refl _ _).drew).mono ?_; rintro e w8 ⟨rfl, rfl⟩)
      | (go_at_call 33; refine (HKS.out _ (Below.refl _ _).drew).mono ?_; rintro e w9 ⟨rfl, hb9⟩; have HB9 := Box.mk ((Below.refl wz.heap.size wz).drew.trans hb9); clear hb9)
      | (go_at_call 20; refine (HST.out _ HB9.out).mono ?_; rintro e w8 ⟨rfl, rfl⟩)))
  all_goals
    go_wp2
    go_ret
    exact ⟨rfl, H8.out.2.1.trans (HB9.out.mono H8.out.2.1.size)⟩
end Go.Proofs.YtkcfbipnhnboaaaGreat

namespace Go.Proofs.YtkcfbipnhnboaaaGreat
open Go.RowKit
set_option maxHeartbeats 1000000

/-- Users ub stand so in W; all of theirs is new since w0. -/
structure Solo (w0 : World) (ub : Nat) (L : List URec) (W : World) : Prop where
  users : UsersAt W ub L
  lowU : ∀ r ∈ L, w0.heap.size ≤ r.blk
  secs : ∀ r ∈ L, r.secret.size ≤ 100000
  bel : Below w0.heap.size w0 W
theorem Solo.below {w0 W W' : World} {ub : Nat} {L : List URec} (s : Solo w0 ub L W) (hb : Below W.heap.size W W') : Solo w0 ub L W' := ⟨s.users.below hb, s.lowU, s.secs, s.bel.trans (hb.mono s.bel.size)⟩
structure PairS (w0 : World) (ub g : Nat) (L : List URec) (gc : Array Value) (W : World) : Prop where
  solo : Solo w0 ub L W
  guest : Blk W g 90 gc
  lowG : w0.heap.size ≤ g
theorem PairS.below {w0 W W' : World} {ub g : Nat} {L : List URec} {gc : Array Value} (s : PairS w0 ub g L gc W) (hb : Below W.heap.size W W') : PairS w0 ub g L gc W' := ⟨s.solo.below hb, Blk.below s.guest hb, s.lowG⟩
structure Duo (w0 : World) (ub g hb : Nat) (L : List URec) (gc : Array Value) (h : HSt) (W : World) : Prop where
  sess : Sess w0.heap.size ub g hb L gc h W
  bel : Below w0.heap.size w0 W
theorem Duo.below {w0 W W' : World} {ub g hb : Nat} {L : List URec} {gc : Array Value} {h : HSt} (s : Duo w0 ub g hb L gc h W) (hb' : Below W.heap.size W W') : Duo w0 ub g hb L gc h W' := ⟨s.sess.below hb', s.bel.trans (hb'.mono s.bel.size)⟩
theorem Duo.solo {w0 W : World} {ub g hb : Nat} {L : List URec} {gc : Array Value} {h : HSt} (s : Duo w0 ub g hb L gc h W) : Solo w0 ub L W := ⟨s.sess.users, s.sess.lowU, s.sess.secs, s.bel⟩

theorem solo_new {w0 W : World} {u s : ByteArray} (hb : Below w0.heap.size w0 W) (h : userOk u s = true) : Calls Tryz.prog 28 #[.slice (some ⟨W.heap.size, 0, none⟩) 1 1] (W.alloc (.cells #[.string u, .string s] 23)) fun e w' => ∃ ub g, e = .returned (.tuple #[.pointer (some ⟨ub, 0, none⟩), .int .i64 0]) ∧ Solo w0 ub [newRec (u, s) g] w' := by
  refine (newOne u s W h).mono ?_
  rintro e w' ⟨ub, g, rfl, _, hg, hU, hb2⟩
  have hsz : s.size = 32 := ((userOk_iff u s).1 h).2
  refine ⟨ub, g, rfl, hU, ?_, ?_, hb.trans (hb2.mono hb.size)⟩
  · intro r hr
    rw [List.mem_singleton] at hr
    subst hr
    exact Nat.le_trans hb.size hg
  · intro r hr
    rw [List.mem_singleton] at hr
    subst hr
    show s.size ≤ _
    omega
theorem pair_guest {w0 W : World} {ub : Nat} {L : List URec} {u s a : ByteArray} (hS : Solo w0 ub L W) (h : userOk u s = true) (ha : a.size = 16) : Calls Tryz.prog 13 #[.agg #[.string u, .string s], .string a] W fun e w' => ∃ g, e = .returned (.pointer (some ⟨g, 0, none⟩)) ∧ PairS w0 ub g L (guestC u s (helloB u a) ByteArray.empty 0) w' := by
  have hu := nameOk_size ((userOk_iff u s).1 h).1
  refine (newGuest_any u s a W (by omega)).mono ?_
  intro e w' hq
  unfold GuestNew at hq
  rw [h, decide_eq_true ha] at hq
  obtain ⟨g, hg, rfl, hG, hb⟩ := hq
  exact ⟨g, rfl, hS.below hb, hG, Nat.le_trans hS.bel.size hg⟩
theorem duo_host {w0 W : World} {ub g : Nat} {L : List URec} {gc : Array Value} {b : ByteArray} (hS : PairS w0 ub g L gc W) (hb : b.size = 16) : Calls Tryz.prog 29 #[.pointer (some ⟨ub, 0, none⟩), .string b] W fun e w' => ∃ hb, e = .returned (.pointer (some ⟨hb, 0, none⟩)) ∧ Duo w0 ub g hb L gc (hostNew b) w' := by
  refine (newHost_yes ub b W hb).mono ?_
  rintro e w' ⟨rfl, hH, hb2⟩
  exact ⟨W.heap.size, rfl, ⟨hS.solo.users.below hb2, Blk.below hS.guest hb2, hH, hS.lowG, hS.solo.bel.size, hS.solo.lowU, hS.solo.secs, hostOk_new hb⟩, hS.solo.bel.trans (hb2.mono hS.solo.bel.size)⟩
theorem duo_hello {w0 W : World} {ub g hb : Nat} {L : List URec} {u s h p : ByteArray} {t : Nat} {x : HSt} (hS : Duo w0 ub g hb L (guestC u s h p t) x W) : Calls Tryz.prog 24 #[.pointer (some ⟨g, 0, none⟩)] W fun e w' => e = .returned (.string h) ∧ W = w' := gHello_any g u s h p t W hS.sess.guest
theorem duo_got {w0 W : World} {ub g hb : Nat} {L L' : List URec} {gc : Array Value} {h h' : HSt} {b o : ByteArray} {now : Int} {c : Nat} (hS : Duo w0 ub g hb L gc h W) (hb9 : b.size ≤ 900000) (hg : h.got ≤ 999999) (hn : -9223372036854775808 ≤ now) (hn2 : now ≤ 9223372036854775807) (hR : gotR L h b now = (h', L', o, c)) :
    Calls Tryz.prog 30 #[.pointer (some ⟨hb, 0, none⟩), .string b, .int .i64 now] W fun e w' => e = .returned (.tuple #[.string o, .int .i64 (c : Int)]) ∧ Duo w0 ub g hb L' gc h' w' := by
  refine (got_any hb ub L h b now W hb9 hg hS.sess.ok hS.sess.secs hn hn2 hS.sess.host hS.sess.users).mono ?_
  intro e w' he
  obtain ⟨h1, h2, h3⟩ := hS.sess.got hg hb9 he
  rw [hR] at h1 h2
  exact ⟨h1, h2, below_chg hS.bel hS.bel.size h3⟩
theorem duo_chal {w0 W : World} {ub g hb : Nat} {L : List URec} {u s h p : ByteArray} {x : HSt} {b : ByteArray} (hS : Duo w0 ub g hb L (guestC u s h p 0) x W) (hh : 0 < h.size) (hhs : h.size ≤ 100000) (hss : s.size ≤ 100000) (hbs : b.size ≤ 100000) (hf : isFixed 2 16 b = true) :
    Calls Tryz.prog 18 #[.pointer (some ⟨g, 0, none⟩), .string b] W fun e w' => e = .returned (.tuple #[.string (letterB 3 (proofB s (h ++ b))), .int .i64 0]) ∧ Duo w0 ub g hb L (guestC u s h (h ++ b) 1) x w' := by
  refine (challenge_yes g u s h p b W hh hhs hss hbs hf hS.sess.guest).mono ?_
  rintro e w' ⟨rfl, hG, hg⟩
  have := hS.sess.turn hG hg
  exact ⟨rfl, this.1, below_chg hS.bel hS.bel.size this.2⟩
theorem finEnd_yes {g : Nat} {u s h p x : ByteArray} {w : World} (hx : x = finishB s p) : ∀ (e : Ending) (w' : World), FinishEnd g u s h p x w e w' → e = .returned (.tuple #[.agg #[.string (upOf s p), .string (downOf s p)], .int .i64 0]) ∧ Blk w' g 90 (guestC u s h p 2) ∧ w.grownBy w' (some g) := by
  intro e w'
  unfold FinishEnd
  rw [if_pos hx]
  exact fun q => q
theorem duo_fin {w0 W : World} {ub g hb : Nat} {L : List URec} {u s h p m : ByteArray} {x : HSt} (hS : Duo w0 ub g hb L (guestC u s h p 1) x W) (hh : 0 < h.size) (hss : s.size ≤ 100000) (hps : p.size ≤ 1000000) (hm : letterB 4 (finishB s p) = m) :
    Calls Tryz.prog 22 #[.pointer (some ⟨g, 0, none⟩), .string m] W fun e w' => e = .returned (.tuple #[.agg #[.string (upOf s p), .string (downOf s p)], .int .i64 0]) ∧ Duo w0 ub g hb L (guestC u s h p 2) x w' := by
  have hfm := finishB_size s p
  have hz : m.size ≤ 1000 := by rw [← hm, letterB_size, hfm]; decide
  have hfx : isFixed 4 32 m = true := by rw [← hm]; exact isFixed_letter 4 32 _ (by omega) hfm
  have hfb : fixedB 4 32 m = finishB s p := by rw [← hm]; exact fixedB_letter 4 32 _ (by omega) hfm
  refine ((finish_mac g u s h p m W hh hss hps (by omega) hfx hS.sess.guest).mono (finEnd_yes hfb)).mono ?_
  rintro e w' ⟨rfl, hG, hg⟩
  have := hS.sess.turn hG hg
  exact ⟨rfl, this.1, below_chg hS.bel hS.bel.size this.2⟩
theorem duo_done {w0 W : World} {ub g hb : Nat} {L : List URec} {gc : Array Value} {x : HSt} (hS : Duo w0 ub g hb L gc x W) : Calls Tryz.prog 31 #[.pointer (some ⟨hb, 0, none⟩)] W fun e w' => e = .returned (.bool x.done) ∧ W = w' := hDone_any hb ub x W hS.sess.host
theorem duo_user {w0 W : World} {ub g hb : Nat} {L : List URec} {gc : Array Value} {x : HSt} (hS : Duo w0 ub g hb L gc x W) : Calls Tryz.prog 32 #[.pointer (some ⟨hb, 0, none⟩)] W fun e w' => e = .returned (.string x.user) ∧ W = w' := hUser_any hb ub x W hS.sess.host
theorem duo_keys {w0 W : World} {ub g hb : Nat} {L : List URec} {gc : Array Value} {x : HSt} (hS : Duo w0 ub g hb L gc x W) : Calls Tryz.prog 33 #[.pointer (some ⟨hb, 0, none⟩)] W fun e w' => e = .returned (.agg #[.string x.up, .string x.down]) ∧ Duo w0 ub g hb L gc x w' := by
  refine (hKeys_any hb ub x W hS.sess.host).mono ?_
  rintro e w' ⟨rfl, hb2⟩
  exact ⟨rfl, hS.below hb2⟩
theorem solo_fail {w0 W : World} {ub : Nat} {L : List URec} {s : ByteArray} {r : URec} {now : Int} (hS : Solo w0 ub L W) (hn : -9223372036854775808 ≤ now) (hn2 : now ≤ 9223372036854775807) (hs : s.size ≤ 1000000000) (hr : recOf L s = some r) :
    Calls Tryz.prog 34 #[.pointer (some ⟨ub, 0, none⟩), .string s, .int .i64 now] W fun e w' => (∃ q, e = .returned (.bool q)) ∧ Solo w0 ub (updL L s (failR now)) w' := by
  refine (fail_some ub L s r now W hn hn2 hS.users hs hr).mono ?_
  rintro e w' ⟨rfl, hU, hg⟩
  have hsame := updL_same (L := L) (s := s) (failR_keeps now)
  refine ⟨⟨_, rfl⟩, hU, ?_, ?_, hS.bel.trans (below_of_grown hg hS.bel.size (by intro k hk; cases hk; exact hS.lowU r (recOf_mem hr).1))⟩
  · intro x hx
    obtain ⟨y, hy, _, _, e⟩ := same_mem hsame hx
    rw [← e]; exact hS.lowU y hy
  · intro x hx
    obtain ⟨y, hy, _, e, _⟩ := same_mem hsame hx
    rw [← e]; exact hS.secs y hy
theorem annOk : userOk annB (fillB sB 32) = true := ann_user
theorem helloOk_of {u s a : ByteArray} (h : userOk u s = true) (ha : a.size = 16) : helloOk u a := ⟨ha, nameOk_size ((userOk_iff u s).1 h).1⟩
end Go.Proofs.YtkcfbipnhnboaaaGreat
