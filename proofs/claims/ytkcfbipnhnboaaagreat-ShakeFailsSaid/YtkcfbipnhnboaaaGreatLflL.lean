/- The walk of ShakeFails. -/
import Derived.Test.YtkcfbipnhnboaaaGreatCh

namespace Go.Proofs.YtkcfbipnhnboaaaGreat
open Go.RowKit

theorem byteAt_right (a b : ByteArray) (i : Nat) : byteAt (a ++ b) (a.size + i) = byteAt b i := by
  unfold byteAt
  rw [ByteArray.data_append, Array.toList_append, List.getD_eq_getElem?_getD, List.getD_eq_getElem?_getD, List.getElem?_append_right (by simp)]
  congr 3
  simp
theorem byteAt_take (a : ByteArray) (k i : Nat) (h : i < k) : byteAt (a.extract 0 k) i = byteAt a i := by
  unfold byteAt
  rw [ByteArray.data_extract, Array.toList_extract, List.getD_eq_getElem?_getD, List.getD_eq_getElem?_getD, List.extract_eq_take_drop, List.drop_zero, List.getElem?_take, if_pos (by omega)]
/-- A code whose last byte is turned. -/
def turnLast (m : ByteArray) : ByteArray := m.extract 0 31 ++ strOf [byteAt m 31 ^^^ 1]
theorem turnLast_size {m : ByteArray} (h : m.size = 32) : (turnLast m).size = 32 := by
  rw [turnLast, ByteArray.size_append, ByteArray.size_extract, strOf_size]
  simp; omega
theorem xor1_ne (c : Nat) : c ^^^ 1 ≠ c := by
  intro h
  have h2 : c ^^^ (c ^^^ 1) = c ^^^ c := by rw [h]
  rw [← Nat.xor_assoc, Nat.xor_self, Nat.zero_xor] at h2
  exact absurd h2 (by decide)
theorem turnLast_ne {m : ByteArray} (h : m.size = 32) : ¬ turnLast m = m := by
  intro e
  have h1 : byteAt (turnLast m) 31 = byteAt m 31 ^^^ 1 := by
    have hs : (m.extract 0 31).size = 31 := by rw [ByteArray.size_extract]; omega
    have := byteAt_right (m.extract 0 31) (strOf [byteAt m 31 ^^^ 1]) 0
    rw [hs] at this
    rw [turnLast, this, byteAt_strOf _ 0 (by simp) (by simpa using Nat.xor_lt_two_pow (n := 8) (byteAt_lt m 31) (by decide))]
    rfl
  rw [e] at h1
  exact xor1_ne _ h1.symm
theorem letter_turn (m : ByteArray) : (letterB 3 m).extract 0 32 ++ strOf [byteAt (letterB 3 m) 32 ^^^ 1] = letterB 3 (turnLast m) := by
  have h1 : (strOf [3]).size = 1 := strOf_size _
  have hb : byteAt (letterB 3 m) 32 = byteAt m 31 := by
    have := byteAt_right (strOf [3]) m 31
    rw [h1] at this
    exact this
  rw [hb, letterB, letterB, turnLast, ByteArray.extract_append, h1, ← ByteArray.append_assoc]
  have e1 : (strOf [3]).extract 0 32 = strOf [3] := by
    apply ByteArray.ext
    apply Array.ext_getElem?
    intro i
    simp only [ByteArray.data_extract, Array.getElem?_extract]
    have hz : (strOf [3]).data.size = 1 := h1
    by_cases hi : i < 1
    · rw [if_pos (by omega), Nat.zero_add]
    · rw [if_neg (by omega), Array.getElem?_eq_none (by omega)]
  rw [e1]

/-- The one user of ShakeFails. -/
def failRec (s : ByteArray) (g f : Nat) (lk : Bool) : URec := if lk then ⟨annB, s, g, 0, true, 25⟩ else ⟨annB, s, g, f, false, 0⟩
theorem failRec_same (s : ByteArray) (g f : Nat) (lk : Bool) : (failRec s g f lk).name = annB ∧ (failRec s g f lk).secret = s ∧ (failRec s g f lk).blk = g := by
  unfold failRec; split <;> exact ⟨rfl, rfl, rfl⟩
theorem failRec_rec (s : ByteArray) (g f : Nat) (lk : Bool) : recOf [failRec s g f lk] annB = some (failRec s g f lk) := by simp [recOf, (failRec_same s g f lk).1]
theorem failRec_locked (s : ByteArray) (g f : Nat) (lk : Bool) : lockedAt [failRec s g f lk] annB 5 = lk := by
  rw [lockedAt, failRec_rec]
  cases lk <;> rfl
theorem failRec_fails (s : ByteArray) (g f : Nat) (lk : Bool) (h : lk = true → f = 0) : (failRec s g f lk).fails = f := by
  cases lk with
  | true => exact (h rfl).symm
  | false => rfl
theorem failRec_good (s : ByteArray) (g f : Nat) : updL [failRec s g f false] annB goodR = [failRec s g 0 false] := by
  rw [updL, List.map_cons, List.map_nil, if_pos (failRec_same s g f false).1]; rfl
theorem failRec_bad (s : ByteArray) (g f : Nat) : updL [failRec s g f false] annB (failR 5) = [failRec s g (if f + 1 = 3 then 0 else f + 1) (decide (f + 1 = 3))] ∨ ¬ f < 3 := by
  by_cases hf : f < 3
  · left
    rw [updL, List.map_cons, List.map_nil, if_pos (failRec_same s g f false).1]
    congr 1
    show failR 5 ⟨annB, s, g, f, false, 0⟩ = _
    rw [failR]
    by_cases h3 : f + 1 = 3
    · rw [if_neg (show ¬ f + 1 < 3 by omega), if_pos h3, decide_eq_true h3]; rfl
    · rw [if_pos (show f + 1 < 3 by omega), if_neg h3, decide_eq_false h3]; rfl
  · right; exact hf
theorem failRec_zero (s : ByteArray) (g : Nat) : failRec s g 0 false = newRec (annB, s) g := rfl

set_option maxHeartbeats 4000000 in
set_option maxRecDepth 100000 in
theorem shakeFails_none (ao : Option Addr) (c : Nat) (w : World) : Calls Tryz.prog 11 #[.slice ao 0 c] w fun e w' => e = .returned (.bool true) ∧ Below w.heap.size w w' := by
  have HAL : Box (∀ W : World, Calls Tryz.prog 12 #[] W fun e w' => e = .returned (.bool true) ∧ Below W.heap.size W w') := ⟨fun W => alive_any W⟩
  have HF : Box (∀ W : World, Calls Tryz.prog 16 #[.string ⟨#[115]⟩, .int .i64 32] W fun e w' => e = .returned (.string (fillB sB 32)) ∧ W = w') := ⟨fun W => fill_any sB 32 W (by omega)⟩
  have hau := annOk
  have hs32 := fillB_size sB 32
  obtain ⟨s, hs⟩ : ∃ s, fillB sB 32 = s := ⟨_, rfl⟩
  rw [hs] at hau HF hs32
  have HN : Box (∀ W : World, Below w.heap.size w W → Calls Tryz.prog 28 #[.slice (some ⟨W.heap.size, 0, none⟩) 1 1] (W.alloc (.cells #[.string ⟨#[97, 110, 110]⟩, .string s] 23)) fun e w' => (∃ ub g, e = .returned (.tuple #[.pointer (some ⟨ub, 0, none⟩), .int .i64 0]) ∧ Solo w ub [newRec (annB, s) g] w') ∧ Below W.heap.size W w') := ⟨fun W hW => by
    refine (newOne annB s W hau).mono ?_
    rintro e w' ⟨ub, g, rfl, _, hg, hU, hb2⟩
    refine ⟨⟨ub, g, rfl, hU, ?_, ?_, hW.trans (hb2.mono hW.size)⟩, hb2⟩
    · intro r hr
      rw [List.mem_singleton] at hr
      subst hr
      exact Nat.le_trans hW.size hg
    · intro r hr
      rw [List.mem_singleton] at hr
      subst hr
      show s.size ≤ _
      omega⟩
  clear hs hau hs32
  go_enter Tryz.func11, Tryz.ntmps11
  go_wp2_with fail
  refine (HAL.out _).mono ?_
  rintro e w1 ⟨rfl, hb1⟩
  have H1 := Box.mk hb1
  clear hb1
  go_wp2_with fail
  refine (HF.out _).mono ?_
  rintro e w2 ⟨rfl, rfl⟩
  obtain ⟨wm, hwm⟩ : ∃ wm, w1.alloc (.cells #[.string annB, .string s] 23) = wm := ⟨_, rfl⟩
  have hwm2 : w1.alloc (.cells #[.string ⟨#[97, 110, 110]⟩, .string s] 23) = wm := hwm
  have hM : Blk wm w1.heap.size 23 #[.string ⟨#[97, 110, 110]⟩, .string s] := by rw [← hwm2]; exact Blk.new w1 _
  have hbm : Below w.heap.size w wm := by rw [← hwm]; exact H1.out.alloc H1.out.size _
  have m0 : wm.cell? ⟨w1.heap.size, 0, none⟩ = some (.string ⟨#[97, 110, 110]⟩) := Blk.cell hM 0
  have m1 : wm.cell? ⟨w1.heap.size, 1, none⟩ = some (.string s) := Blk.cell hM 1
  have HM := Box.mk (And.intro hM hbm)
  clear hM hbm hwm
  go_wp2_with fail
  try rw [hwm2]
  clear hwm2
  refine (HN.out _ HM.out.2).mono ?_
  rintro e w3 ⟨⟨ub, gu, rfl, hS3⟩, hb3⟩
  have hM3 := Blk.below HM.out.1 hb3
  have H3 := Box.mk (And.intro hS3 hM3)
  clear hb3 hM3 hS3 m0 m1
  go_wp2
  refine wp_loop_rounds 1 ?_
  rw [rounds_succ]
  go_wp2
  go_ret
  exact ⟨rfl, H3.out.1.bel⟩

set_option maxHeartbeats 4000000 in
set_option maxRecDepth 100000 in
theorem shakeFails_main (b o n c : Nat) (B : Nat → Bool) (w : World) (hn : n ≤ 12) (hbl : b < w.heap.size) (hc : ∀ i, i < n → w.cell? ⟨b, o + i, none⟩ = some (.bool (B i))) : Calls Tryz.prog 11 #[.slice (some ⟨b, o, none⟩) n c] w fun e w' => e = .returned (.bool true) ∧ Below w.heap.size w w' := by
  have HAL : Box (∀ W : World, Calls Tryz.prog 12 #[] W fun e w' => e = .returned (.bool true) ∧ Below W.heap.size W w') := ⟨fun W => alive_any W⟩
  have HF : Box (∀ W : World, Calls Tryz.prog 16 #[.string ⟨#[115]⟩, .int .i64 32] W fun e w' => e = .returned (.string (fillB sB 32)) ∧ W = w') := ⟨fun W => fill_any sB 32 W (by omega)⟩
  have hau := annOk
  have hs32 := fillB_size sB 32
  obtain ⟨s, hs⟩ : ∃ s, fillB sB 32 = s := ⟨_, rfl⟩
  rw [hs] at hau HF hs32
  have HN : Box (∀ W : World, Below w.heap.size w W → Calls Tryz.prog 28 #[.slice (some ⟨W.heap.size, 0, none⟩) 1 1] (W.alloc (.cells #[.string ⟨#[97, 110, 110]⟩, .string s] 23)) fun e w' => (∃ ub g, e = .returned (.tuple #[.pointer (some ⟨ub, 0, none⟩), .int .i64 0]) ∧ Solo w ub [newRec (annB, s) g] w') ∧ Below W.heap.size W w') := ⟨fun W hW => by
    refine (newOne annB s W hau).mono ?_
    rintro e w' ⟨ub, g, rfl, _, hg, hU, hb2⟩
    refine ⟨⟨ub, g, rfl, hU, ?_, ?_, hW.trans (hb2.mono hW.size)⟩, hb2⟩
    · intro r hr
      rw [List.mem_singleton] at hr
      subst hr
      exact Nat.le_trans hW.size hg
    · intro r hr
      rw [List.mem_singleton] at hr
      subst hr
      show s.size ≤ _
      omega⟩
  have HCB : Box _ := ⟨hc⟩
  have hok := ann_ok
  have hr1 : ∀ L, gotR L (hostNew nonceZ) (helloB annB nonceA) 5 = (hostMid annB nonceA nonceZ, L, letterB 2 nonceZ, 0) := fun L => gotR_hello L annB nonceA nonceZ _ hok
  have hpm := proofB_size s (papersOf annB nonceA nonceZ)
  have htz := turnLast_size hpm
  have htn := turnLast_ne hpm
  have hlt := letter_turn (proofB s (papersOf annB nonceA nonceZ))
  -- locked: whatever comes is refused
  have hr2 : ∀ g f m, m.size = 32 → gotR [failRec s g f true] (hostMid annB nonceA nonceZ) (letterB 3 m) 5 = (⟨nonceZ, 2, true, annB, papersOf annB nonceA nonceZ, false, ByteArray.empty, ByteArray.empty⟩, [failRec s g f true], ByteArray.empty, 6) := fun g f m hm => gotR_refuse _ annB nonceA nonceZ m _ hm (.inr (failRec_locked s g f true))
  -- the right proof
  have hr3 : ∀ g f, gotR [failRec s g f false] (hostMid annB nonceA nonceZ) (letterB 3 (proofB s (papersOf annB nonceA nonceZ))) 5 = (⟨nonceZ, 2, false, annB, papersOf annB nonceA nonceZ, true, upOf s (papersOf annB nonceA nonceZ), downOf s (papersOf annB nonceA nonceZ)⟩, [failRec s g 0 false], letterB 4 (finishB s (papersOf annB nonceA nonceZ)), 0) := fun g f => by
    have := gotR_proof [failRec s g f false] annB nonceA nonceZ _ 5 _ hpm (failRec_rec s g f false) (failRec_locked s g f false)
    rw [(failRec_same s g f false).2.1, if_pos rfl, failRec_good] at this
    exact this
  -- the wrong one
  have hr4 : ∀ g f, f < 3 → gotR [failRec s g f false] (hostMid annB nonceA nonceZ) (letterB 3 (turnLast (proofB s (papersOf annB nonceA nonceZ)))) 5 = (⟨nonceZ, 2, true, annB, papersOf annB nonceA nonceZ, false, ByteArray.empty, ByteArray.empty⟩, [failRec s g (if f + 1 = 3 then 0 else f + 1) (decide (f + 1 = 3))], ByteArray.empty, 3) := fun g f hf => by
    have := gotR_proof [failRec s g f false] annB nonceA nonceZ _ 5 _ htz (failRec_rec s g f false) (failRec_locked s g f false)
    rw [(failRec_same s g f false).2.1, if_neg htn, (failRec_bad s g f).resolve_right (fun h => h hf)] at this
    exact this
  have hf1 := isFixed_letter 2 16 nonceZ (by omega) rfl
  have hhz := helloB_size annB nonceA
  have hcz := letterB_size 2 nonceZ
  have e1 : annB.size = 3 := rfl
  have e2 : nonceA.size = 16 := rfl
  have e3 : nonceZ.size = 16 := rfl
  rw [e1, e2] at hhz
  rw [e3] at hcz
  have hpp : helloB annB nonceA ++ letterB 2 nonceZ = papersOf annB nonceA nonceZ := rfl
  have hmg : (hostMid annB nonceA nonceZ).got = 1 := rfl
  obtain ⟨hlo, hhl⟩ : ∃ hlo, helloB annB nonceA = hlo := ⟨_, rfl⟩
  obtain ⟨c2, hc2⟩ : ∃ c2, letterB 2 nonceZ = c2 := ⟨_, rfl⟩
  obtain ⟨p, hp⟩ : ∃ p, papersOf annB nonceA nonceZ = p := ⟨_, rfl⟩
  obtain ⟨hm, hhm⟩ : ∃ hm, hostMid annB nonceA nonceZ = hm := ⟨_, rfl⟩
  rw [hhl] at hhz hr1 hpp
  rw [hc2] at hcz hr1 hf1 hpp
  rw [hp] at hpm hr2 hr3 hr4 hpp htz htn hlt
  rw [hhm] at hr1 hr2 hr3 hr4 hmg
  obtain ⟨pr, hpr⟩ : ∃ pr, proofB s p = pr := ⟨_, rfl⟩
  rw [hpr] at hpm hr3 hr4 htz htn hlt
  obtain ⟨fm, hfm2⟩ : ∃ fm, letterB 4 (finishB s p) = fm := ⟨_, rfl⟩
  rw [hfm2] at hr3
  obtain ⟨pm, hpm2⟩ : ∃ pm, letterB 3 pr = pm := ⟨_, rfl⟩
  obtain ⟨pt, hpt⟩ : ∃ pt, letterB 3 (turnLast pr) = pt := ⟨_, rfl⟩
  have hpmz : pm.size = 33 := by rw [← hpm2, letterB_size, hpm]
  have hptz : pt.size = 33 := by rw [← hpt, letterB_size, htz]
  have hr2a := fun g f => hr2 g f pr hpm
  have hr2b := fun g f => hr2 g f (turnLast pr) htz
  rw [hpm2] at hr2a hr3 hlt
  rw [hpt] at hr2b hr4 hlt
  have HPG : Box (∀ (ub : Nat) (L : List URec) (W : World), Solo w ub L W → Calls Tryz.prog 13 #[.agg #[.string ⟨#[97, 110, 110]⟩, .string s], .string ⟨#[48, 49, 50, 51, 52, 53, 54, 55, 56, 57, 97, 98, 99, 100, 101, 102]⟩] W fun e w' => (∃ g, e = .returned (.pointer (some ⟨g, 0, none⟩)) ∧ PairS w ub g L (guestC annB s hlo ByteArray.empty 0) w') ∧ Below W.heap.size W w') := ⟨fun ub L W hW => by
    rw [← hhl]
    have h1 := newGuest_any annB s nonceA W (by decide)
    refine h1.mono ?_
    intro e w' hq
    unfold GuestNew at hq
    rw [hau, show decide (nonceA.size = 16) = true from rfl] at hq
    obtain ⟨g, hg, rfl, hG, hb⟩ := hq
    exact ⟨⟨g, rfl, hW.below hb, hG, Nat.le_trans hW.bel.size hg⟩, hb⟩⟩
  have HPH : Box (∀ (ub g : Nat) (L : List URec) (gc : Array Value) (W : World), PairS w ub g L gc W → Calls Tryz.prog 29 #[.pointer (some ⟨ub, 0, none⟩), .string ⟨#[102, 101, 100, 99, 98, 97, 57, 56, 55, 54, 53, 52, 51, 50, 49, 48]⟩] W fun e w' => (∃ hb, e = .returned (.pointer (some ⟨hb, 0, none⟩)) ∧ Duo w ub g hb L gc (hostNew nonceZ) w') ∧ Below W.heap.size W w') := ⟨fun ub g L gc W hW => by
    refine (newHost_yes ub nonceZ W rfl).mono ?_
    rintro e w' ⟨rfl, hH, hb2⟩
    exact ⟨⟨W.heap.size, rfl, ⟨hW.solo.users.below hb2, Blk.below hW.guest hb2, hH, hW.lowG, hW.solo.bel.size, hW.solo.lowU, hW.solo.secs, hostOk_new rfl⟩, hW.solo.bel.trans (hb2.mono hW.solo.bel.size)⟩, hb2⟩⟩
  have HGO : Box (∀ (ub g hb : Nat) (L L' : List URec) (gc : Array Value) (h h' : HSt) (x o2 : ByteArray) (e2 k2 : Nat) (W : World), Duo w ub g hb L gc h W → x.size ≤ 900000 → h.got ≤ 999999 → gotR L h x 5 = (h', L', o2, e2) → Blk W k2 23 #[.string ⟨#[97, 110, 110]⟩, .string s] → Calls Tryz.prog 30 #[.pointer (some ⟨hb, 0, none⟩), .string x, .int .i64 5] W fun e w' => e = .returned (.tuple #[.string o2, .int .i64 (e2 : Int)]) ∧ Duo w ub g hb L' gc h' w' ∧ Blk w' k2 23 #[.string ⟨#[97, 110, 110]⟩, .string s]) := ⟨fun ub g hb L L' gc h h' x o2 e2 k2 W hS hb9 hg hR hK => by
    refine (got_any hb ub L h x 5 W hb9 hg hS.sess.ok hS.sess.secs (by decide) (by decide) hS.sess.host hS.sess.users).mono ?_
    intro e w' he
    have hch := he.2.2.2
    obtain ⟨h1, h2, h3⟩ := hS.sess.got hg hb9 he
    rw [hR] at h1 h2
    refine ⟨h1, ⟨h2, below_chg hS.bel hS.bel.size h3⟩, hch.block hK ?_⟩
    rintro (e | ⟨r, hr, e⟩)
    · exact blk_ne hK hS.sess.host (by decide) e
    · exact blk_ne (hS.sess.users.cells r hr) hK (by decide) e⟩
  have HCH : Box (∀ (ub g hb k2 : Nat) (L : List URec) (x : HSt) (W : World), Duo w ub g hb L (guestC annB s hlo ByteArray.empty 0) x W → Blk W k2 23 #[.string ⟨#[97, 110, 110]⟩, .string s] → Calls Tryz.prog 18 #[.pointer (some ⟨g, 0, none⟩), .string c2] W fun e w' => e = .returned (.tuple #[.string pm, .int .i64 0]) ∧ Duo w ub g hb L (guestC annB s hlo p 1) x w' ∧ Blk w' k2 23 #[.string ⟨#[97, 110, 110]⟩, .string s]) := ⟨fun ub g hb k2 L x W h hK => by
    have := challenge_yes g annB s hlo ByteArray.empty c2 W (by omega) (by omega) (by omega) (by omega) hf1 h.sess.guest
    rw [hpp, hpr, hpm2] at this
    refine this.mono ?_
    rintro e w' ⟨rfl, hG, hg⟩
    have ht := h.sess.turn hG hg
    exact ⟨rfl, ⟨ht.1, below_chg h.bel h.bel.size ht.2⟩, blk_grown hK hg (fun e => by cases e; exact blk_ne hK h.sess.guest (by decide) rfl)⟩⟩
  have hp32 : byteAt pm 32 < 256 := byteAt_lt pm 32
  have hidx : ∀ h : 32 < pm.size, (pm[32]'h).toNat = byteAt pm 32 := fun h => byteAt_get pm 32 h
  obtain ⟨cb, hcb⟩ : ∃ cb, byteAt pm 32 = cb := ⟨_, rfl⟩
  rw [hcb] at hlt hp32
  simp only [hcb] at hidx
  have hx1 : bits .xor .u8 (cb : Int) 1 = ((cb ^^^ 1 : Nat) : Int) := u8_xor_nat cb 1 hp32 (by decide)
  have hcv : ∀ W : World, (convert 42 9 (.slice (some ⟨W.heap.size, 0, none⟩) 1 1)).run Tryz.prog (W.alloc (.cells #[.int .u8 ((cb ^^^ 1 : Nat) : Int)] 5)).drew = .ok (.string (strOf [cb ^^^ 1])) (W.alloc (.cells #[.int .u8 ((cb ^^^ 1 : Nat) : Int)] 5)).drew := fun W =>
    run_string_of_blk 42 9 5 Tryz.underlying42 Tryz.underlying5 Tryz.underlying9 (l := [cb ^^^ 1]) (Blk.drew (Blk.new W _)) 1 1 rfl
  obtain ⟨xb, hxb⟩ : ∃ xb, cb ^^^ 1 = xb := ⟨_, rfl⟩
  rw [hxb] at hlt hx1
  simp only [hxb] at hcv
  have hx1z : (strOf [xb]).size = 1 := strOf_size _
  obtain ⟨k1, hk1⟩ : ∃ k1, strOf [xb] = k1 := ⟨_, rfl⟩
  rw [hk1] at hlt hx1z
  simp only [hk1] at hcv
  have HR : Box _ := ⟨And.intro hr1 (And.intro hr2a (And.intro hr2b (And.intro hr3 (And.intro hr4 (And.intro hmg hlt)))))⟩
  have hz1 : pm.size ≤ 33 := by omega
  have hz2 : 33 ≤ pm.size := by omega
  have hz3 : ((pm.size : Int) != 33) = false := by simp; omega
  have hlz : hlo.size ≤ 100 := by omega
  have hptz1 : pt.size ≤ 33 := by omega
  clear hs hau hs32 hok hr1 hr2 hr2a hr2b hr3 hr4 hf1 hpp hhl hc2 hp hhm hpr hpm2 hpt hpm hhz hcz hmg htz htn hlt e1 e2 e3 hfm2 hpmz hptz hc hcb hk1 hxb
  go_enter Tryz.func11, Tryz.ntmps11
  go_wp2_with fail
  refine (HAL.out _).mono ?_
  rintro e w1 ⟨rfl, hb1⟩
  have H1 := Box.mk hb1
  clear hb1
  go_wp2_with fail
  refine (HF.out _).mono ?_
  rintro e w2 ⟨rfl, rfl⟩
  obtain ⟨wm, hwm⟩ : ∃ wm, w1.alloc (.cells #[.string annB, .string s] 23) = wm := ⟨_, rfl⟩
  have hwm2 : w1.alloc (.cells #[.string ⟨#[97, 110, 110]⟩, .string s] 23) = wm := hwm
  have hM : Blk wm w1.heap.size 23 #[.string ⟨#[97, 110, 110]⟩, .string s] := by rw [← hwm2]; exact Blk.new w1 _
  have hbm : Below w.heap.size w wm := by rw [← hwm]; exact H1.out.alloc H1.out.size _
  have m0 : wm.cell? ⟨w1.heap.size, 0, none⟩ = some (.string ⟨#[97, 110, 110]⟩) := Blk.cell hM 0
  have m1 : wm.cell? ⟨w1.heap.size, 1, none⟩ = some (.string s) := Blk.cell hM 1
  have HM := Box.mk (And.intro hM hbm)
  clear hM hbm hwm
  go_wp2_with fail
  try rw [hwm2]
  clear hwm2
  refine (HN.out _ HM.out.2).mono ?_
  rintro e w3 ⟨⟨ub, gu, rfl, hS3⟩, hb3⟩
  have hM3 := Blk.below HM.out.1 hb3
  have H3 := Box.mk (And.intro hS3 hM3)
  clear hb3 hM3 hS3 m0 m1
  go_wp2
  go_loopw [6, 7, 36] (fun f6 l7 i wr => ∃ (k f : Nat) (lk : Bool), k ≤ n ∧ f < 3 ∧ f6 = .int .i64 (f : Int) ∧ l7 = .bool lk ∧ i = .int .i64 (k : Int) ∧ Box ((lk = true → f = 0) ∧ Solo w ub [failRec s gu f lk] wr ∧ Blk wr w1.heap.size 23 #[.string ⟨#[97, 110, 110]⟩, .string s])) (fun _ _ i _ => n - (intOf i).toNat)
  case atStart => exact ⟨0, 0, false, Nat.zero_le _, by omega, rfl, rfl, rfl, ⟨fun _ => rfl, H3.out.1, H3.out.2⟩⟩
  case round =>
    obtain ⟨k, f, lk, hk, hf, rfl, rfl, rfl, HJ⟩ := hrel
    by_cases hkn : k < n
    · have m0 : wr.cell? ⟨w1.heap.size, 0, none⟩ = some (.string ⟨#[97, 110, 110]⟩) := Blk.cell HJ.out.2.2 0
      have m1 : wr.cell? ⟨w1.heap.size, 1, none⟩ = some (.string s) := Blk.cell HJ.out.2.2 1
      have cb0 : wr.cell? ⟨b, o + k, none⟩ = some (.bool (B k)) := (HJ.out.2.1.bel.cell (p := ⟨b, o + k, none⟩) hbl).trans (HCB.out k hkn)
      go_wp2_with fail
      refine (HPG.out _ _ _ HJ.out.2.1).mono ?_
      rintro e w4 ⟨⟨g, rfl, hS4⟩, hb4⟩
      have H4 := Box.mk (And.intro hS4 (Blk.below HJ.out.2.2 hb4))
      clear hS4 hb4 m0 m1 cb0
      go_wp2_with fail
      refine (HPH.out _ _ _ _ _ H4.out.1).mono ?_
      rintro e w5 ⟨⟨hb, rfl, hS5⟩, hb5⟩
      have H5 := Box.mk (And.intro hS5 (Blk.below H4.out.2 hb5))
      clear hS5 hb5
      go_wp2_with fail
      refine (duo_hello H5.out.1).mono ?_
      rintro e w6 ⟨rfl, rfl⟩
      go_wp2_with fail
      refine (HGO.out _ _ _ _ _ _ _ _ _ _ _ _ _ H5.out.1 (by omega) (Nat.zero_le _) (HR.out.1 _) H5.out.2).mono ?_
      rintro e w6 ⟨rfl, hS6⟩
      have H6 := Box.mk hS6
      clear hS6
      go_wp2_with fail
      refine (HCH.out _ _ _ _ _ _ _ H6.out.1 H6.out.2).mono ?_
      rintro e w7 ⟨rfl, hS7⟩
      have H7 := Box.mk hS7
      clear hS7
      have HFLS : Box (∀ (W : World) (f' : Nat) (lk' : Bool), (lk' = true → f' = 0) → Solo w ub [failRec s gu f' lk'] W → Calls Tryz.prog 41 #[.pointer (some ⟨ub, 0, none⟩), .string ⟨#[97, 110, 110]⟩] W fun e w' => e = .returned (.int .i64 (f' : Int)) ∧ W = w') := ⟨fun W f' lk' hl hS => by
        have := fails_some ub [failRec s gu f' lk'] annB _ W hS.users (by decide) (failRec_rec s gu f' lk')
        rw [failRec_fails s gu f' lk' hl] at this
        exact this⟩
      have HLCK : Box (∀ (W : World) (f' : Nat) (lk' : Bool), Solo w ub [failRec s gu f' lk'] W → Calls Tryz.prog 42 #[.pointer (some ⟨ub, 0, none⟩), .string ⟨#[97, 110, 110]⟩, .int .i64 5] W fun e w' => e = .returned (.bool lk') ∧ W = w') := ⟨fun W f' lk' hS => by
        have := locked_any ub [failRec s gu f' lk'] annB 5 W hS.users (by decide)
        rw [failRec_locked s gu f' lk'] at this
        exact this⟩
      obtain ⟨r, hr⟩ : ∃ r, B k = r := ⟨_, rfl⟩
      rw [hr]
      clear hr
      cases r with
      | true =>
        cases lk with
        | true =>
          have hf0 : f = 0 := HJ.out.1 rfl
          subst hf0
          go_wp2_with fail
          refine (HGO.out _ _ _ _ _ _ _ _ _ _ _ _ _ H7.out.1 (by omega) (by rw [HR.out.2.2.2.2.2.1]; decide) (HR.out.2.1 gu 0) H7.out.2).mono ?_
          rintro e w8 ⟨rfl, hS8⟩
          have H8 := Box.mk hS8
          clear hS8
          go_wp2_with fail
          refine (HFLS.out _ 0 true (fun _ => rfl) H8.out.1.solo).mono ?_
          rintro e w9 ⟨rfl, rfl⟩
          go_wp2_with fail
          refine (HLCK.out _ 0 true H8.out.1.solo).mono ?_
          rintro e w9 ⟨rfl, rfl⟩
          go_wp2
          exact ⟨⟨k + 1, 0, true, by omega, by omega, by first | rfl | go_num, rfl, by go_num, ⟨(fun _ => rfl), H8.out.1.solo, H8.out.2⟩⟩, by simp [intOf]; omega⟩
        | false =>
          go_wp2_with fail
          refine (HGO.out _ _ _ _ _ _ _ _ _ _ _ _ _ H7.out.1 (by omega) (by rw [HR.out.2.2.2.2.2.1]; decide) (HR.out.2.2.2.1 gu f) H7.out.2).mono ?_
          rintro e w8 ⟨rfl, hS8⟩
          have H8 := Box.mk hS8
          clear hS8
          go_wp2_with fail
          refine (HFLS.out _ 0 false (fun _ => rfl) H8.out.1.solo).mono ?_
          rintro e w9 ⟨rfl, rfl⟩
          go_wp2_with fail
          refine (HLCK.out _ 0 false H8.out.1.solo).mono ?_
          rintro e w9 ⟨rfl, rfl⟩
          go_wp2
          exact ⟨⟨k + 1, 0, false, by omega, by omega, by first | rfl | go_num, rfl, by go_num, ⟨(fun _ => rfl), H8.out.1.solo, H8.out.2⟩⟩, by simp [intOf]; omega⟩
      | false =>
        go_upto_region 17 with fail
        go_cut [14] (fun v W => v = .string pt ∧ Box (Below w7.heap.size w7 W))
        case first =>
          have hcv7 := hcv w7
          have hz4 : (32 : Int) ≤ (pm.size : Int) := by omega
          have hz5 : (32 : Int) < (pm.size : Int) := by omega
          go_region
          all_goals
            go_wp2_with fail
            go_meet
            refine ⟨by rw [← HR.out.2.2.2.2.2.2], ⟨?_⟩⟩
            first | exact (Below.refl _ _).drew.alloc (Nat.le_refl _) _ | exact ((Below.refl _ _).alloc (Nat.le_refl _) _).drew
        case rest =>
          obtain ⟨rfl, HW⟩ := hcut
          have H7 : Box (Duo w ub g hb [failRec s gu f lk] (guestC annB s hlo p 1) hm wc ∧ Blk wc w1.heap.size 23 #[.string ⟨#[97, 110, 110]⟩, .string s]) := ⟨H7.out.1.below HW.out, Blk.below H7.out.2 HW.out⟩
          cases lk with
          | true =>
            have hf0 : f = 0 := HJ.out.1 rfl
            subst hf0
            go_wp2_with fail
            refine (HGO.out _ _ _ _ _ _ _ _ _ _ _ _ _ H7.out.1 (by omega) (by rw [HR.out.2.2.2.2.2.1]; decide) (HR.out.2.2.1 gu 0) H7.out.2).mono ?_
            rintro e w8 ⟨rfl, hS8⟩
            have H8 := Box.mk hS8
            clear hS8
            go_wp2_with fail
            refine (HFLS.out _ 0 true (fun _ => rfl) H8.out.1.solo).mono ?_
            rintro e w9 ⟨rfl, rfl⟩
            go_wp2_with fail
            refine (HLCK.out _ 0 true H8.out.1.solo).mono ?_
            rintro e w9 ⟨rfl, rfl⟩
            go_wp2
            exact ⟨⟨k + 1, 0, true, by omega, by omega, by first | rfl | go_num, rfl, by go_num, ⟨(fun _ => rfl), H8.out.1.solo, H8.out.2⟩⟩, by simp [intOf]; omega⟩
          | false =>
            by_cases h3 : f + 1 = 3
            · have hR4 := HR.out.2.2.2.2.1 gu f hf
              rw [if_pos h3, decide_eq_true h3] at hR4
              have HR4 := Box.mk hR4
              have hq3 : (((f : Int) + 1) == 3) = true := by simp; omega
              clear hR4 h3
              go_wp2_with fail
              refine (HGO.out _ _ _ _ _ _ _ _ _ _ _ _ _ H7.out.1 (by omega) (by rw [HR.out.2.2.2.2.2.1]; decide) HR4.out H7.out.2).mono ?_
              rintro e w8 ⟨rfl, hS8⟩
              have H8 := Box.mk hS8
              clear hS8
              go_wp2_with fail
              refine (HFLS.out _ 0 true (fun _ => rfl) H8.out.1.solo).mono ?_
              rintro e w9 ⟨rfl, rfl⟩
              go_wp2_with fail
              refine (HLCK.out _ 0 true H8.out.1.solo).mono ?_
              rintro e w9 ⟨rfl, rfl⟩
              go_wp2
              exact ⟨⟨k + 1, 0, true, by omega, by omega, by first | rfl | go_num, rfl, by go_num, ⟨(fun _ => rfl), H8.out.1.solo, H8.out.2⟩⟩, by simp [intOf]; omega⟩
            · have hR4 := HR.out.2.2.2.2.1 gu f hf
              rw [if_neg h3, decide_eq_false h3] at hR4
              have HR4 := Box.mk hR4
              have hq3 : (((f : Int) + 1) == 3) = false := by simp; omega
              clear hR4
              go_wp2_with fail
              refine (HGO.out _ _ _ _ _ _ _ _ _ _ _ _ _ H7.out.1 (by omega) (by rw [HR.out.2.2.2.2.2.1]; decide) HR4.out H7.out.2).mono ?_
              rintro e w8 ⟨rfl, hS8⟩
              have H8 := Box.mk hS8
              clear hS8
              go_wp2_with fail
              refine (HFLS.out _ (f + 1) false (fun h => by cases h) H8.out.1.solo).mono ?_
              rintro e w9 ⟨rfl, rfl⟩
              go_wp2_with fail
              refine (HLCK.out _ (f + 1) false H8.out.1.solo).mono ?_
              rintro e w9 ⟨rfl, rfl⟩
              go_wp2
              exact ⟨⟨k + 1, (f + 1), false, by omega, by omega, by first | rfl | go_num, rfl, by go_num, ⟨(fun h => by cases h), H8.out.1.solo, H8.out.2⟩⟩, by simp [intOf]; omega⟩
    · obtain rfl : k = n := by omega
      go_wp2
      go_ret
      exact ⟨rfl, HJ.out.2.1.bel⟩

set_option maxHeartbeats 2000000 in
set_option maxRecDepth 100000 in
theorem shakeFails_long (ao : Option Addr) (n c : Nat) (w : World) (h : 12 < n) : Calls Tryz.prog 11 #[.slice ao n c] w fun e w' => e = .returned (.bool true) ∧ Below w.heap.size w w' := by
  have HAL : Box (∀ W : World, Calls Tryz.prog 12 #[] W fun e w' => e = .returned (.bool true) ∧ Below W.heap.size W w') := ⟨fun W => alive_any W⟩
  go_enter Tryz.func11, Tryz.ntmps11
  go_wp2_with fail
  refine (HAL.out _).mono ?_
  rintro e w1 ⟨rfl, hb1⟩
  go_wp2
  go_ret
  exact ⟨rfl, hb1⟩
theorem shakeFails_nil (w : World) : Calls Tryz.prog 11 #[.slice none 0 0] w fun e w' => e = .returned (.bool true) ∧ Below w.heap.size w w' := shakeFails_none none 0 w
theorem shakeFails_some (a : Addr) (n c : Nat) (B : Nat → Bool) (w : World) (hc : ∀ i, i < n → w.cell? (a.add i) = some (.bool (B i))) : Calls Tryz.prog 11 #[.slice (some a) n c] w fun e w' => e = .returned (.bool true) ∧ Below w.heap.size w w' := by
  by_cases h0 : n = 0
  · subst h0; exact shakeFails_none _ c w
  · by_cases h12 : 12 < n
    · exact shakeFails_long _ n c w h12
    · have h1 := hc 0 (by omega)
      have hs : (a.add 0).spot = none := World.cell?_spot h1
      obtain ⟨b, o, q⟩ := a
      have hq : q = none := by simpa [Addr.add] using hs
      subst hq
      have hb : b < w.heap.size := World.block_lt_of_cell? w _ h1
      refine shakeFails_main b o n c B w (by omega) hb (fun i hi => ?_)
      rw [← hc i hi]
      congr 1
      unfold Addr.add
      split
      · rename_i e; subst e; rfl
      · rfl
end Go.Proofs.YtkcfbipnhnboaaaGreat
