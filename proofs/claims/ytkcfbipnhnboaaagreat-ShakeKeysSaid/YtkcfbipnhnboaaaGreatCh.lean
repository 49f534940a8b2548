/- More contracts for the statements on handshakes: New of one user that may not be; Fail, with its frame. ref14: Hello, GetHello. -/
import Derived.Test.YtkcfbipnhnboaaaGreatCg
import Derived.Deep.RegionHeld3
import Derived.Deep.DeepCutAuto

namespace Go.Proofs.YtkcfbipnhnboaaaGreat
open Go.RowKit

set_option maxHeartbeats 1000000 in
set_option maxRecDepth 100000 in
theorem newOne_bad (u s : ByteArray) (W : World) (hu : u.size ≤ 1000000) (h : userOk u s = false) : Calls Tryz.prog 28 #[.slice (some ⟨W.heap.size, 0, none⟩) 1 1] (W.alloc (.cells #[.string u, .string s] 23)) fun e w' => e = .returned (.tuple #[.pointer none, .int .i64 1]) ∧ Below W.heap.size W w' := by
  obtain ⟨w, hw⟩ : ∃ w, W.alloc (.cells #[.string u, .string s] 23) = w := ⟨_, rfl⟩
  have hX : Blk w W.heap.size 23 #[.string u, .string s] := by rw [← hw]; exact Blk.new W _
  have hb0 : Below W.heap.size W w := by rw [← hw]; exact (Below.refl _ _).alloc (Nat.le_refl _) _
  rw [hw]
  obtain ⟨sb, hsb⟩ : ∃ sb, W.heap.size = sb := ⟨_, rfl⟩
  rw [hsb] at hX ⊢
  have hmm := @run_makeMap Tryz.prog
  have HRT : Box (∀ V : World, Calls Tryz.prog 43 #[.agg #[.string u, .string s]] V fun e w' => e = .returned (.bool false) ∧ Below V.heap.size V w') := ⟨fun V => by rw [← h]; exact right_any_user u s V (by omega)⟩
  have hlt := Blk.lt hX
  have c0 : w.cell? ⟨sb, 0, none⟩ = some (.string u) := Blk.cell hX 0
  have c1 : w.cell? ⟨sb, 1, none⟩ = some (.string s) := Blk.cell hX 1
  have HB0 : Box (Below W.heap.size W w ∧ W.heap.size = sb ∧ W.heap.size ≤ w.heap.size) := ⟨hb0, hsb, hb0.size⟩
  clear hw hX hb0 h hsb
  go_enter Tryz.func28, Tryz.ntmps28
  go_wp2
  refine wp_loop_rounds 1 ?_
  rw [rounds_succ]
  go_upto_region 7 with fail
  first | go_region_with ((go_at_call 43; refine (HRT.out _).mono ?_; rintro e w6 ⟨rfl, hb6⟩; have HB6 := Box.mk hb6; clear hb6)) | fail
  all_goals
    go_wp2
    go_ret2
    refine ⟨rfl, ?_⟩
    have hs := HB0.out.2.2
    have h1 : Below W.heap.size W (((w.alloc (.map #[] 0)).alloc (.cells #[.map (some w.heap.size)] 108)).alloc (.cells #[.string u, .string s] 23)) := ((HB0.out.1.alloc hs _).alloc (by simp; omega) _).alloc (by simp; omega) _
    rw [← HB0.out.2.1]
    exact h1.drew.trans (HB6.out.mono h1.drew.size)

/-- A user behind k failures at a time. -/
def lockRec (u s : ByteArray) (g : Nat) (now : Int) (k : Nat) : URec := if k < 3 then ⟨u, s, g, k, false, 0⟩ else ⟨u, s, g, 0, true, now + 20⟩
theorem lockRec_zero (u s : ByteArray) (g : Nat) (now : Int) : lockRec u s g now 0 = newRec (u, s) g := by rw [lockRec, if_pos (by decide)]; rfl
theorem lockRec_name (u s : ByteArray) (g : Nat) (now : Int) (k : Nat) : (lockRec u s g now k).name = u ∧ (lockRec u s g now k).secret = s ∧ (lockRec u s g now k).blk = g := by
  unfold lockRec; split <;> exact ⟨rfl, rfl, rfl⟩
theorem lockRec_succ (u s : ByteArray) (g : Nat) (now : Int) (k : Nat) (hk : k < 3) (hn : now ≤ 1000000) : updL [lockRec u s g now k] u (failR now) = [lockRec u s g now (k + 1)] := by
  rw [updL, List.map_cons, List.map_nil, if_pos (lockRec_name u s g now k).1]
  congr 1
  rw [lockRec, if_pos hk, failR, lockRec]
  by_cases h : k + 1 < 3
  · rw [if_pos h, if_pos h]
  · rw [if_neg h, if_neg h, if_pos (by omega)]
theorem lockRec_rec (u s : ByteArray) (g : Nat) (now : Int) (k : Nat) : recOf [lockRec u s g now k] u = some (lockRec u s g now k) := by
  simp [recOf, (lockRec_name u s g now k).1]

/-- Fail, with what else has turned. -/
theorem solo_fail2 {w0 W : World} {ub : Nat} {L : List URec} {s : ByteArray} {r : URec} {now : Int} (hS : Solo w0 ub L W) (hn : -9223372036854775808 ≤ now) (hn2 : now ≤ 9223372036854775807) (hs : s.size ≤ 1000000000) (hr : recOf L s = some r) :
    Calls Tryz.prog 34 #[.pointer (some ⟨ub, 0, none⟩), .string s, .int .i64 now] W fun e w' => (∃ q, e = .returned (.bool q)) ∧ Solo w0 ub (updL L s (failR now)) w' ∧ W.grownBy w' (some r.blk) := by
  refine (fail_some ub L s r now W hn hn2 hS.users hs hr).mono ?_
  rintro e w' ⟨rfl, hU, hg⟩
  have hsame := updL_same (L := L) (s := s) (failR_keeps now)
  refine ⟨⟨_, rfl⟩, ⟨hU, ?_, ?_, hS.bel.trans (below_of_grown hg hS.bel.size (by intro k hk; cases hk; exact hS.lowU r (recOf_mem hr).1))⟩, hg⟩
  · intro x hx
    obtain ⟨y, hy, _, _, e⟩ := same_mem hsame hx
    rw [← e]; exact hS.lowU y hy
  · intro x hx
    obtain ⟨y, hy, _, e, _⟩ := same_mem hsame hx
    rw [← e]; exact hS.secs y hy
end Go.Proofs.YtkcfbipnhnboaaaGreat

namespace Go.Proofs.YtkcfbipnhnboaaaGreat
open Go.RowKit

theorem helloB_letter (u n : ByteArray) : letterB 1 (strOf [u.size] ++ u ++ n) = helloB u n := by
  rw [letterB, helloB, ← ByteArray.append_assoc, ← ByteArray.append_assoc]
  rfl

set_option maxHeartbeats 1000000 in
set_option maxRecDepth 100000 in
theorem refHello_yes (u n : ByteArray) (w : World) (h : helloOk u n) : Calls Tryz.prog 15 #[.agg #[.string u, .string n]] w fun e w' => e = .returned (.tuple #[.string (helloB u n), .bool true]) ∧ Below w.heap.size w w' := by
  obtain ⟨hn, hu1, hu2⟩ := h
  have hlt := helloB_letter u n
  obtain ⟨k, hk⟩ : ∃ k, u.size = k := ⟨_, rfl⟩
  rw [hk] at hu1 hu2 hlt
  have hmod : (k : Int) % 256 = (k : Int) := by omega
  have hcv : ∀ W : World, (convert 42 9 (.slice (some ⟨W.heap.size, 0, none⟩) 1 1)).run Tryz.prog (W.alloc (.cells #[.int .u8 (k : Int)] 5)) = .ok (.string (strOf [k])) (W.alloc (.cells #[.int .u8 (k : Int)] 5)) := fun W =>
    run_string_of_blk 42 9 5 Tryz.underlying42 Tryz.underlying5 Tryz.underlying9 (l := [k]) (Blk.new W _) 1 1 rfl
  have h2s : (strOf [k]).size = 1 := strOf_size _
  obtain ⟨h2, hh2⟩ : ∃ h2, strOf [k] = h2 := ⟨_, rfl⟩
  rw [hh2] at h2s hlt
  simp only [hh2] at hcv
  have hcv2 := hcv (w.alloc (.cells #[.string u, .string n] 32))
  simp only [World.size_alloc] at hcv2
  have hcc : ¬ (9223372036854775807 < 1 + k) := by omega
  have hcc2 : ¬ (9223372036854775807 < 1 + k + 16) := by omega
  have hq : ((n.size : Int) != 16) = false := by simp; omega
  have HL : Box (∀ W : World, Calls Tryz.prog 44 #[.int .i64 1, .string (h2 ++ u ++ n)] W fun e w' => e = .returned (.string (helloB u n)) ∧ Below W.heap.size W w') := ⟨fun W => by
    rw [← hlt]
    exact refLetter_any 1 (h2 ++ u ++ n) W (by omega) (by rw [ByteArray.size_append, ByteArray.size_append]; omega)⟩
  clear hh2 hlt
  go_enter Tryz.func15, Tryz.ntmps15
  go_wp2_with fail
  refine (HL.out _).mono ?_
  rintro e w1 ⟨rfl, hb1⟩
  have HB1 := Box.mk hb1
  clear hb1
  go_wp2
  go_ret2
  exact ⟨rfl, (((Below.refl _ _).alloc (Nat.le_refl _) _).alloc (by simp) _).trans (HB1.out.mono (by simp; omega))⟩

set_option maxHeartbeats 1000000 in
set_option maxRecDepth 100000 in
theorem refHello_no (u n : ByteArray) (w : World) (h : ¬ helloOk u n) : Calls Tryz.prog 15 #[.agg #[.string u, .string n]] w fun e w' => e = .returned (.tuple #[.string ByteArray.empty, .bool false]) ∧ Below w.heap.size w w' := by
  unfold helloOk at h
  by_cases h1 : n.size = 16
  · have hq : ((n.size : Int) != 16) = false := by simp; omega
    by_cases h2 : u.size < 1
    · go_enter Tryz.func15, Tryz.ntmps15
      go_wp2
      go_ret2
      exact ⟨rfl, (Below.refl _ _).alloc (Nat.le_refl _) _⟩
    · have h3 : 20 < u.size := by omega
      go_enter Tryz.func15, Tryz.ntmps15
      go_wp2
      go_ret2
      exact ⟨rfl, (Below.refl _ _).alloc (Nat.le_refl _) _⟩
  · have hq : ((n.size : Int) != 16) = true := by simp; omega
    clear h h1
    go_enter Tryz.func15, Tryz.ntmps15
    go_wp2
    go_ret2
    exact ⟨rfl, (Below.refl _ _).alloc (Nat.le_refl _) _⟩

theorem hello_again (b : ByteArray) (h : b.size = 18 + byteAt b 1) (hc : byteAt b 1 < 256) : helloB (helloUser b) (helloNonce b) = b ↔ byteAt b 0 = 1 := by
  have hus := helloUser_size h
  constructor
  · intro e
    rw [← e, helloB_at0]
  · intro e
    have e2 : strOf [1, (helloUser b).size] = b.extract 0 2 := by
      rw [hus]
      refine byteAt_ext (by rw [strOf_size, ByteArray.size_extract]; simp; omega) ?_
      intro i hi
      have hi2 : i < 2 := by rw [strOf_size] at hi; simpa using hi
      have hx : byteAt (b.extract 0 2) i = byteAt b i := by
        unfold byteAt
        rw [ByteArray.data_extract, Array.toList_extract, List.getD_eq_getElem?_getD, List.getD_eq_getElem?_getD, List.extract_eq_take_drop, List.drop_zero, List.getElem?_take, if_pos (by omega)]
      rw [hx]
      obtain rfl | rfl : i = 0 ∨ i = 1 := by omega
      · rw [byteAt_strOf _ 0 (by simp) (by simp)]; exact e.symm
      · rw [byteAt_strOf _ 1 (by simp) (by simpa using hc)]; rfl
    have e3 : b.extract 0 2 ++ b.extract 2 (2 + byteAt b 1) = b.extract 0 (2 + byteAt b 1) := by
      rw [ByteArray.extract_append_extract]
      congr 1 <;> omega
    rw [helloB, e2, helloUser, helloNonce, e3, ByteArray.extract_append_extract]
    have e4 : min 0 (2 + byteAt b 1) = 0 := by omega
    have e5 : max (2 + byteAt b 1) b.size = b.size := by omega
    rw [e4, e5]
    exact extract_all b

set_option maxHeartbeats 1000000 in
set_option maxRecDepth 100000 in
theorem refGetHello_short (b : ByteArray) (w : World) (h : ¬ (2 ≤ b.size ∧ b.size = 18 + byteAt b 1)) : Calls Tryz.prog 36 #[.string b] w fun e w' => e = .returned (.tuple #[.agg #[.string ByteArray.empty, .string ByteArray.empty], .bool false]) ∧ Below w.heap.size w w' := by
  have hR0 : Blk (w.alloc (.cells #[.string ⟨#[]⟩, .string ⟨#[]⟩] 32)) w.heap.size 32 #[.string ⟨#[]⟩, .string ⟨#[]⟩] := Blk.new w _
  have e1 : ∀ h : 1 < b.size, (b[1]'h).toNat = byteAt b 1 := fun h => byteAt_get b 1 h
  have hc256 := byteAt_lt b 1
  obtain ⟨c, hc⟩ : ∃ c, byteAt b 1 = c := ⟨_, rfl⟩
  rw [hc] at h hc256
  simp only [hc] at e1
  have HR : Box _ := ⟨hR0⟩
  clear hc hR0
  by_cases h2 : b.size < 2
  · clear h
    go_enter Tryz.func36, Tryz.ntmps36
    go_wp2
    have h3 := HR.out
    refine bodyPost_ret (results_cell_tmp (P := Tryz.prog) Tryz.results36 _ _ w.heap.size 32 #[.string ⟨#[]⟩, .string ⟨#[]⟩] (0, 0) _ rfl h3 Tryz.underlying32 rfl (by kernel_rfl)) rfl ⟨rfl, ?_⟩
    exact (Below.refl w.heap.size w).alloc (Nat.le_refl _) _
  · have hq2 : ((b.size : Int) != 18 + (c : Int)) = true := by simp; omega
    clear h
    go_enter Tryz.func36, Tryz.ntmps36
    go_wp2
    have h3 := HR.out
    refine bodyPost_ret (results_cell_tmp (P := Tryz.prog) Tryz.results36 _ _ w.heap.size 32 #[.string ⟨#[]⟩, .string ⟨#[]⟩] (0, 0) _ rfl h3 Tryz.underlying32 rfl (by kernel_rfl)) rfl ⟨rfl, ?_⟩
    exact (Below.refl w.heap.size w).alloc (Nat.le_refl _) _

set_option maxHeartbeats 1000000 in
set_option maxRecDepth 100000 in
theorem refGetHello_long (b : ByteArray) (w : World) (_hs : b.size ≤ 1000000000) (h1 : 2 ≤ b.size) (h3 : b.size = 18 + byteAt b 1) : Calls Tryz.prog 36 #[.string b] w fun e w' => e = .returned (if isHello b then .tuple #[.agg #[.string (helloUser b), .string (helloNonce b)], .bool true] else .tuple #[.agg #[.string ByteArray.empty, .string ByteArray.empty], .bool false]) ∧ Below w.heap.size w w' := by
  have hR0 : Blk (w.alloc (.cells #[.string ⟨#[]⟩, .string ⟨#[]⟩] 32)) w.heap.size 32 #[.string ⟨#[]⟩, .string ⟨#[]⟩] := Blk.new w _
  have e1 : ∀ h : 1 < b.size, (b[1]'h).toNat = byteAt b 1 := fun h => byteAt_get b 1 h
  have hc256 := byteAt_lt b 1
  have hus := helloUser_size h3
  have hns := helloNonce_size h3
  have hag := hello_again b h3 hc256
  have hi : isHello b = (decide (1 ≤ byteAt b 1 ∧ byteAt b 1 ≤ 20) && decide (helloB (helloUser b) (helloNonce b) = b)) := by
    by_cases h : 1 ≤ byteAt b 1 ∧ byteAt b 1 ≤ 20
    · rw [decide_eq_true h, Bool.true_and]
      by_cases h0 : byteAt b 0 = 1
      · rw [decide_eq_true (hag.2 h0)]; exact (isHello_iff b).2 ⟨h1, h0, h3, h⟩
      · rw [decide_eq_false (fun e => h0 (hag.1 e))]; exact isHello_no (fun e => h0 e.2.1)
    · rw [decide_eq_false h]; exact isHello_no (fun e => h e.2.2.2)
  have hu : helloUser b = b.extract 2 (2 + byteAt b 1) := rfl
  have hn : helloNonce b = b.extract (2 + byteAt b 1) b.size := rfl
  obtain ⟨c, hc⟩ : ∃ c, byteAt b 1 = c := ⟨_, rfl⟩
  rw [hc] at h3 hc256 hi hu hn hus
  simp only [hc] at e1
  rw [hi]
  obtain ⟨u, hu2⟩ : ∃ u, helloUser b = u := ⟨_, rfl⟩
  obtain ⟨n, hn2⟩ : ∃ n, helloNonce b = n := ⟨_, rfl⟩
  rw [hu2, hn2]
  rw [hu2] at hu hus
  rw [hn2] at hn hns
  obtain ⟨q, hq⟩ : ∃ q, decide (helloB u n = b) = q := ⟨_, rfl⟩
  rw [hq]
  obtain ⟨v, hv⟩ : ∃ v, (if (decide (1 ≤ c ∧ c ≤ 20) && q) = true then Value.tuple #[.agg #[.string u, .string n], .bool true] else .tuple #[.agg #[.string ByteArray.empty, .string ByteArray.empty], .bool false]) = v := ⟨_, rfl⟩
  rw [hv]
  have HR : Box _ := ⟨hR0⟩
  have HU : Box _ := ⟨And.intro hu (And.intro hn (And.intro hv hq))⟩
  have hq2 : ((b.size : Int) != 18 + (c : Int)) = false := by simp; omega
  have h3a : b.size ≤ 18 + c := by omega
  have hsub : (b.size : Int) - 16 = ((2 + c : Nat) : Int) := by omega
  have h3b : 18 + c ≤ b.size := by omega
  have hns1 : n.size ≤ 16 := by omega
  have hns2 : 16 ≤ n.size := by omega
  have hus1 : u.size ≤ c := by omega
  have hus2 : c ≤ u.size := by omega
  clear hc hR0 hi hu2 hn2 hu hn hv h3 hns hus hag hq
  go_enter Tryz.func36, Tryz.ntmps36
  go_upto_region 3 with fail
  go_cut [4] (fun p W => ∃ g : Nat, p = .pointer (some ⟨g, 0, none⟩) ∧ Box (Blk W g 32 #[.string u, .string n]) ∧ Box (Blk W w.heap.size 32 #[.string ⟨#[]⟩, .string ⟨#[]⟩]) ∧ Box (Below w.heap.size w W))
  case first =>
    go_region
    all_goals
      go_wp2_with fail
      go_meet
      refine ⟨_, rfl, ⟨?_⟩, ⟨?_⟩, ⟨?_⟩⟩
      · rw [HU.out.1, HU.out.2.1]
        exact Blk.drew (Blk.new_at _ (by simp))
      · exact Blk.drew (Blk.alloc HR.out _)
      · exact (((Below.refl _ _).alloc (Nat.le_refl _) _).alloc (by simp) _).drew
  case rest =>
    obtain ⟨g, rfl, HG, HR2, HB⟩ := hcut
    have c0 : wc.cell? ⟨g, 0, none⟩ = some (.string u) := Blk.cell HG.out 0
    have c1 : wc.cell? ⟨g, 1, none⟩ = some (.string n) := Blk.cell HG.out 1
    by_cases hok : 1 ≤ c ∧ c ≤ 20
    · have HP : Box (∀ W : World, Calls Tryz.prog 15 #[.agg #[.string u, .string n]] W fun e w' => e = .returned (.tuple #[.string (helloB u n), .bool true]) ∧ Below W.heap.size W w') := ⟨fun W => refHello_yes u n W ⟨by omega, by omega, by omega⟩⟩
      have hv := HU.out.2.2.1
      rw [decide_eq_true hok, Bool.true_and] at hv
      have hqq := HU.out.2.2.2
      obtain ⟨t, ht⟩ : ∃ t, helloB u n = t := ⟨_, rfl⟩
      rw [ht] at HP hqq
      have HV0 : Box _ := ⟨And.intro hv hqq⟩
      clear hv hqq ht
      go_wp2_with fail
      refine (HP.out _).mono ?_
      rintro e w7 ⟨rfl, hb7⟩
      have hG7 := Blk.below HG.out hb7
      have hR7 := Blk.below HR2.out hb7
      have H7 : Box _ := ⟨And.intro hR7 (HB.out.trans (hb7.mono HB.out.size))⟩
      have d0 : w7.cell? ⟨g, 0, none⟩ = some (.string u) := Blk.cell hG7 0
      have d1 : w7.cell? ⟨g, 1, none⟩ = some (.string n) := Blk.cell hG7 1
      have r0 : w7.cell? ⟨w.heap.size, 0, none⟩ = some (.string ⟨#[]⟩) := Blk.cell hR7 0
      have r1 : w7.cell? ⟨w.heap.size, 1, none⟩ = some (.string ⟨#[]⟩) := Blk.cell hR7 1
      have f0 : w7.frozen? ⟨w.heap.size, 0, none⟩ = false := Blk.free hR7 0
      have f1 : w7.frozen? ⟨w.heap.size, 1, none⟩ = false := Blk.free hR7 1
      clear hb7 hG7 hR7 c0 c1
      cases q with
      | true =>
        have htb : t = b := of_decide_eq_true HV0.out.2
        have hv : v = .tuple #[.agg #[.string u, .string n], .bool true] := HV0.out.1.symm
        have HV : Box _ := ⟨hv⟩
        have hbq : (t.toList == b.toList) = true := by rw [htb]; simp
        have hbq2 : t.toList = b.toList := by rw [htb]
        have hbq3 : (t.toList != b.toList) = false := by rw [bne, hbq]; rfl
        clear htb hv
        go_wp2
        have h3 := Blk.set (Blk.set H7.out.1 0 (.string u)) 1 (.string n)
        refine bodyPost_ret (results_cell_tmp (P := Tryz.prog) Tryz.results36 _ _ w.heap.size 32 #[.string u, .string n] (0, 0) _ rfl h3 Tryz.underlying32 rfl (by kernel_rfl)) rfl ⟨?_, ?_⟩
        · rw [HV.out]; rfl
        · exact (H7.out.2.setCell (Nat.le_refl _) _).setCell (Nat.le_refl _) _
      | false =>
        have htb : ¬ t = b := of_decide_eq_false HV0.out.2
        have hv : v = .tuple #[.agg #[.string ByteArray.empty, .string ByteArray.empty], .bool false] := HV0.out.1.symm
        have HV : Box _ := ⟨hv⟩
        have hbq : (t.toList == b.toList) = false := strNe htb
        have hbq2 : ¬ t.toList = b.toList := by simpa using hbq
        have hbq3 : (t.toList != b.toList) = true := by rw [bne, hbq]; rfl
        clear htb hv
        go_wp2
        have h3 := Blk.set (Blk.set H7.out.1 0 (.string ⟨#[]⟩)) 1 (.string ⟨#[]⟩)
        refine bodyPost_ret (results_cell_tmp (P := Tryz.prog) Tryz.results36 _ _ w.heap.size 32 #[.string ⟨#[]⟩, .string ⟨#[]⟩] (0, 0) _ rfl h3 Tryz.underlying32 rfl (by kernel_rfl)) rfl ⟨?_, ?_⟩
        · rw [HV.out]; rfl
        · exact (H7.out.2.setCell (Nat.le_refl _) _).setCell (Nat.le_refl _) _
    · have HP : Box (∀ W : World, Calls Tryz.prog 15 #[.agg #[.string u, .string n]] W fun e w' => e = .returned (.tuple #[.string ByteArray.empty, .bool false]) ∧ Below W.heap.size W w') := ⟨fun W => refHello_no u n W (fun e => hok ⟨by have := e.2.1; omega, by have := e.2.2; omega⟩)⟩
      have hv : v = .tuple #[.agg #[.string ByteArray.empty, .string ByteArray.empty], .bool false] := by rw [← HU.out.2.2.1, decide_eq_false hok]; rfl
      have HV : Box _ := ⟨hv⟩
      clear hv hok
      go_wp2_with fail
      refine (HP.out _).mono ?_
      rintro e w7 ⟨rfl, hb7⟩
      have hR7 := Blk.below HR2.out hb7
      have H7 : Box _ := ⟨And.intro hR7 (HB.out.trans (hb7.mono HB.out.size))⟩
      have r0 : w7.cell? ⟨w.heap.size, 0, none⟩ = some (.string ⟨#[]⟩) := Blk.cell hR7 0
      have r1 : w7.cell? ⟨w.heap.size, 1, none⟩ = some (.string ⟨#[]⟩) := Blk.cell hR7 1
      have f0 : w7.frozen? ⟨w.heap.size, 0, none⟩ = false := Blk.free hR7 0
      have f1 : w7.frozen? ⟨w.heap.size, 1, none⟩ = false := Blk.free hR7 1
      clear hb7 hR7 c0 c1
      go_wp2
      have h3 := Blk.set (Blk.set H7.out.1 0 (.string ⟨#[]⟩)) 1 (.string ⟨#[]⟩)
      refine bodyPost_ret (results_cell_tmp (P := Tryz.prog) Tryz.results36 _ _ w.heap.size 32 #[.string ⟨#[]⟩, .string ⟨#[]⟩] (0, 0) _ rfl h3 Tryz.underlying32 rfl (by kernel_rfl)) rfl ⟨?_, ?_⟩
      · rw [HV.out]; rfl
      · exact (H7.out.2.setCell (Nat.le_refl _) _).setCell (Nat.le_refl _) _

theorem refGetHello_any (b : ByteArray) (w : World) (hs : b.size ≤ 1000000000) : Calls Tryz.prog 36 #[.string b] w fun e w' => e = .returned (if isHello b then .tuple #[.agg #[.string (helloUser b), .string (helloNonce b)], .bool true] else .tuple #[.agg #[.string ByteArray.empty, .string ByteArray.empty], .bool false]) ∧ Below w.heap.size w w' := by
  by_cases h : 2 ≤ b.size ∧ b.size = 18 + byteAt b 1
  · exact refGetHello_long b w hs h.1 h.2
  · rw [isHello_no (fun e => h ⟨e.1, e.2.2.1⟩)]
    exact refGetHello_short b w h
end Go.Proofs.YtkcfbipnhnboaaaGreat
