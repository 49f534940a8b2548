/- hello.GetHello. shake.Guest.Finish: out of its turn. shake.Guest.Finish: the ways with a guest. -/
import Derived.Test.YtkcfbipnhnboaaaGreatCd
import Derived.Deep.RegionWith
import Derived.Deep.DeepCutAuto

namespace Go.Proofs.YtkcfbipnhnboaaaGreat
open Go.RowKit

/-- The user and the nonce of a hello. -/
def helloUser (b : ByteArray) : ByteArray := b.extract 2 (2 + byteAt b 1)
def helloNonce (b : ByteArray) : ByteArray := b.extract (2 + byteAt b 1) b.size
/-- Is it a hello? -/
def isHello (b : ByteArray) : Bool := decide (2 ≤ b.size ∧ byteAt b 0 = 1 ∧ b.size = 18 + byteAt b 1 ∧ 1 ≤ byteAt b 1 ∧ byteAt b 1 ≤ 20)
theorem isHello_iff (b : ByteArray) : isHello b = true ↔ (2 ≤ b.size ∧ byteAt b 0 = 1 ∧ b.size = 18 + byteAt b 1 ∧ 1 ≤ byteAt b 1 ∧ byteAt b 1 ≤ 20) := decide_eq_true_iff
theorem isHello_no {b : ByteArray} (h : ¬ (2 ≤ b.size ∧ byteAt b 0 = 1 ∧ b.size = 18 + byteAt b 1 ∧ 1 ≤ byteAt b 1 ∧ byteAt b 1 ≤ 20)) : isHello b = false := decide_eq_false h
theorem kindOf_one (b : ByteArray) : kindOf b = 1 ↔ (1 ≤ b.size ∧ byteAt b 0 = 1) := by
  unfold kindOf
  constructor
  · intro h
    split at h
    · omega
    · split at h
      · omega
      · omega
  · rintro ⟨h1, h2⟩
    rw [if_neg (by omega), if_neg (by omega), h2]
theorem helloUser_size {b : ByteArray} (h : b.size = 18 + byteAt b 1) : (helloUser b).size = byteAt b 1 := by rw [helloUser, ByteArray.size_extract]; omega
theorem helloNonce_size {b : ByteArray} (h : b.size = 18 + byteAt b 1) : (helloNonce b).size = 16 := by rw [helloNonce, ByteArray.size_extract]; omega

set_option maxHeartbeats 1000000 in
set_option maxRecDepth 100000 in
theorem getHello_short (b : ByteArray) (w : World) (h : ¬ (2 ≤ b.size ∧ byteAt b 0 = 1 ∧ b.size = 18 + byteAt b 1)) : Calls Tryz.prog 80 #[.string b] w fun e w' => e = .returned (.tuple #[.agg #[.string ByteArray.empty, .string ByteArray.empty], .bool false]) ∧ Below w.heap.size w w' := by
  have hR0 : Blk (w.alloc (.cells #[.string ⟨#[]⟩, .string ⟨#[]⟩] 32)) w.heap.size 32 #[.string ⟨#[]⟩, .string ⟨#[]⟩] := Blk.new w _
  have hK := fun W => kind_any b W
  have hk1 := kindOf_one b
  have e1 : ∀ h : 1 < b.size, (b[1]'h).toNat = byteAt b 1 := fun h => byteAt_get b 1 h
  have hc256 := byteAt_lt b 1
  obtain ⟨c, hc⟩ : ∃ c, byteAt b 1 = c := ⟨_, rfl⟩
  obtain ⟨k, hk⟩ : ∃ k, kindOf b = k := ⟨_, rfl⟩
  rw [hc] at h hc256
  simp only [hc] at e1
  simp only [hk] at hK hk1
  have HK : Box _ := ⟨hK⟩
  have HR : Box _ := ⟨hR0⟩
  clear hK hk hc hR0
  by_cases h1 : k = 1
  · have hb1 := (hk1.1 h1).1
    have hb2 := (hk1.1 h1).2
    have hq1 : ((k : Int) != 1) = false := by simp [h1]
    clear hk1
    by_cases h2 : b.size < 2
    · go_enter Tryz.func80, Tryz.ntmps80
      go_wp2_with fail
      refine (HK.out _).mono ?_
      rintro e w1 ⟨rfl, rfl⟩
      go_wp2
      have h3 := HR.out
      refine bodyPost_ret (results_cell_tmp (P := Tryz.prog) Tryz.results80 _ _ w.heap.size 32 #[.string ⟨#[]⟩, .string ⟨#[]⟩] (0, 0) _ rfl h3 Tryz.underlying32 rfl (by kernel_rfl)) rfl ⟨rfl, ?_⟩
      exact (Below.refl w.heap.size w).alloc (Nat.le_refl _) _
    · have h3 : ¬ b.size = 18 + c := fun e => h ⟨by omega, hb2, e⟩
      have hq2 : ((b.size : Int) != 2 + (c : Int) + 16) = true := by simp; omega
      go_enter Tryz.func80, Tryz.ntmps80
      go_wp2_with fail
      refine (HK.out _).mono ?_
      rintro e w1 ⟨rfl, rfl⟩
      go_wp2
      have h3 := HR.out
      refine bodyPost_ret (results_cell_tmp (P := Tryz.prog) Tryz.results80 _ _ w.heap.size 32 #[.string ⟨#[]⟩, .string ⟨#[]⟩] (0, 0) _ rfl h3 Tryz.underlying32 rfl (by kernel_rfl)) rfl ⟨rfl, ?_⟩
      exact (Below.refl w.heap.size w).alloc (Nat.le_refl _) _
  · have hq1 : ((k : Int) != 1) = true := by simp; omega
    clear hk1
    go_enter Tryz.func80, Tryz.ntmps80
    go_wp2_with fail
    refine (HK.out _).mono ?_
    rintro e w1 ⟨rfl, rfl⟩
    go_wp2
    have h3 := HR.out
    refine bodyPost_ret (results_cell_tmp (P := Tryz.prog) Tryz.results80 _ _ w.heap.size 32 #[.string ⟨#[]⟩, .string ⟨#[]⟩] (0, 0) _ rfl h3 Tryz.underlying32 rfl (by kernel_rfl)) rfl ⟨rfl, ?_⟩
    exact (Below.refl w.heap.size w).alloc (Nat.le_refl _) _

set_option maxHeartbeats 1000000 in
set_option maxRecDepth 100000 in
theorem getHello_long (b : ByteArray) (w : World) (hs : b.size ≤ 1000000000) (h1 : 2 ≤ b.size) (h2 : byteAt b 0 = 1) (h3 : b.size = 18 + byteAt b 1) : Calls Tryz.prog 80 #[.string b] w fun e w' => e = .returned (if isHello b then .tuple #[.agg #[.string (helloUser b), .string (helloNonce b)], .bool true] else .tuple #[.agg #[.string ByteArray.empty, .string ByteArray.empty], .bool false]) ∧ Below w.heap.size w w' := by
  have hR0 : Blk (w.alloc (.cells #[.string ⟨#[]⟩, .string ⟨#[]⟩] 32)) w.heap.size 32 #[.string ⟨#[]⟩, .string ⟨#[]⟩] := Blk.new w _
  have hK := fun W => kind_any b W
  have hk1 := (kindOf_one b).2 ⟨by omega, h2⟩
  have e1 : ∀ h : 1 < b.size, (b[1]'h).toNat = byteAt b 1 := fun h => byteAt_get b 1 h
  have hc256 := byteAt_lt b 1
  have hus := helloUser_size h3
  have hns := helloNonce_size h3
  have hi : isHello b = decide (1 ≤ byteAt b 1 ∧ byteAt b 1 ≤ 20) := by
    by_cases h : 1 ≤ byteAt b 1 ∧ byteAt b 1 ≤ 20
    · rw [decide_eq_true h]; exact (isHello_iff b).2 ⟨h1, h2, h3, h⟩
    · rw [decide_eq_false h]; exact isHello_no (fun e => h e.2.2.2)
  have hu : helloUser b = b.extract 2 (2 + byteAt b 1) := rfl
  have hn : helloNonce b = b.extract (2 + byteAt b 1) b.size := rfl
  obtain ⟨c, hc⟩ : ∃ c, byteAt b 1 = c := ⟨_, rfl⟩
  rw [hc] at h3 hc256 hi hu hn hus
  simp only [hc] at e1
  simp only [hk1] at hK
  rw [hi]
  obtain ⟨u, hu2⟩ : ∃ u, helloUser b = u := ⟨_, rfl⟩
  obtain ⟨n, hn2⟩ : ∃ n, helloNonce b = n := ⟨_, rfl⟩
  rw [hu2, hn2]
  rw [hu2] at hu hus
  rw [hn2] at hn hns
  obtain ⟨v, hv⟩ : ∃ v, (if decide (1 ≤ c ∧ c ≤ 20) = true then Value.tuple #[.agg #[.string u, .string n], .bool true] else .tuple #[.agg #[.string ByteArray.empty, .string ByteArray.empty], .bool false]) = v := ⟨_, rfl⟩
  rw [hv]
  have HK : Box _ := ⟨hK⟩
  have HR : Box _ := ⟨hR0⟩
  have HU : Box _ := ⟨And.intro hu (And.intro hn hv)⟩
  have hq2 : ((b.size : Int) != 2 + (c : Int) + 16) = false := by simp; omega
  have h3a : b.size ≤ 18 + c := by omega
  have ht : (2 + (c : Int)).toNat = 2 + c := by omega
  have h3b : 18 + c ≤ b.size := by omega
  have hns1 : n.size ≤ 16 := by omega
  have hns2 : 16 ≤ n.size := by omega
  have hus1 : u.size ≤ c := by omega
  have hus2 : c ≤ u.size := by omega
  clear hK hk1 hc hR0 hi hu2 hn2 h2 hu hn hv h3 hns hus
  go_enter Tryz.func80, Tryz.ntmps80
  go_wp2_with fail
  refine (HK.out _).mono ?_
  rintro e w1 ⟨rfl, rfl⟩
  go_upto_region 4 with fail
  go_cut [5] (fun p W => ∃ g : Nat, p = .pointer (some ⟨g, 0, none⟩) ∧ Box (Blk W g 32 #[.string u, .string n]) ∧ Box (Blk W w.heap.size 32 #[.string ⟨#[]⟩, .string ⟨#[]⟩]) ∧ Box (Below w.heap.size w W))
  case first =>
    go_region_with (go_at_call 58; refine (clone_any _ _ (by rw [ByteArray.size_extract]; omega)).mono ?_; rintro e w6 ⟨rfl, hb6⟩; (first | have kb6 := Blk.below (Blk.drew (Blk.new _ _)) hb6 | have kb6 := Blk.below (Blk.new _ _) hb6 | have kb6 := Blk.below kb6 hb6 | skip); (try simp only [World.size_alloc] at kb6); (try (have kc0 : World.cell? _ ⟨_, 0, none⟩ = some (.string ⟨#[]⟩) := Blk.cell kb6 0; have kc1 : World.cell? _ ⟨_, 1, none⟩ = some (.string ⟨#[]⟩) := Blk.cell kb6 1; have kf0 : World.frozen? _ ⟨_, 0, none⟩ = false := Blk.free kb6 0; have kf1 : World.frozen? _ ⟨_, 1, none⟩ = false := Blk.free kb6 1)); (first | have kr6 := Blk.below kr6 hb6 | have kr6 := Blk.below (Blk.alloc kr6 _) hb6 | have kr6 := Blk.below (Blk.drew HR.out) hb6 | have kr6 := Blk.below (Blk.drew (Blk.alloc HR.out _)) hb6); (first | have kw6 := kw6.trans (hb6.mono kw6.size) | have kw6 := (kw6.alloc kw6.size _).trans (hb6.mono (by simp; have := kw6.size; omega)) | have kw6 := ((Below.refl w.heap.size w).alloc (Nat.le_refl _) _).drew.trans (hb6.mono (by simp)) | have kw6 := (((Below.refl w.heap.size w).alloc (Nat.le_refl _) _).alloc (by simp) _).drew.trans (hb6.mono (by simp; omega))); have kz6 := hb6.size; (try simp at kz6); clear hb6)
    all_goals
      go_wp2_with fail
      go_meet
      refine ⟨_, rfl, ⟨?_⟩, ⟨?_⟩, ⟨?_⟩⟩
      · rw [HU.out.1, HU.out.2.1]
        first | exact Blk.new_at _ rfl | exact Blk.set (Blk.set kb6 0 _) 1 _
      · first | exact Blk.alloc kr6 _ | exact Blk.far (Blk.far kr6 (by first | (simp; done) | (simp; omega)) _) (by first | (simp; done) | (simp; omega)) _
      · first | exact kw6.alloc kw6.size _ | exact (kw6.setCell (by first | (simp; done) | (simp; omega)) _).setCell (by first | (simp; done) | (simp; omega)) _
  case rest =>
    obtain ⟨g, rfl, HG, HR2, HB⟩ := hcut
    have c0 : wc.cell? ⟨g, 0, none⟩ = some (.string u) := Blk.cell HG.out 0
    have c1 : wc.cell? ⟨g, 1, none⟩ = some (.string n) := Blk.cell HG.out 1
    by_cases hok : 1 ≤ c ∧ c ≤ 20
    · have hv : v = .tuple #[.agg #[.string u, .string n], .bool true] := by rw [← HU.out.2.2, decide_eq_true hok]; rfl
      have HP : Box (∀ W : World, Calls Tryz.prog 38 #[.agg #[.string u, .string n]] W fun e w' => e = .returned (.tuple #[.string (helloB u n), .bool true]) ∧ Below W.heap.size W w') := ⟨fun W => putHello_yes u n W ⟨by omega, by omega, by omega⟩⟩
      have HV : Box _ := ⟨hv⟩
      clear hv
      go_wp2_with fail
      refine (HP.out _).mono ?_
      rintro e w7 ⟨rfl, hb7⟩
      have hG7 := Blk.below HG.out hb7
      have hR7 := Blk.below HR2.out hb7
      have H7 : Box _ := ⟨And.intro hR7 (HB.out.trans (hb7.mono HB.out.size))⟩
      have d0 : w7.cell? ⟨g, 0, none⟩ = some (.string u) := Blk.cell hG7 0
      have d1 : w7.cell? ⟨g, 1, none⟩ = some (.string n) := Blk.cell hG7 1
      have r0 : w7.cell? ⟨w.heap.size, 0, none⟩ = some (.string ⟨#[]⟩) := Blk.cell hR7 0
      have r1 : w7.cell? ⟨w.heap.size, 1, none⟩ = some (.string ⟨#[]⟩) := Blk.cell hR7 1
      have f0 : w7.frozen? ⟨w.heap.size, 0, none⟩ = false := Blk.free hR7 0
      have f1 : w7.frozen? ⟨w.heap.size, 1, none⟩ = false := Blk.free hR7 1
      clear hb7 hG7 hR7 c0 c1
      go_wp2
      have h3 := Blk.set (Blk.set H7.out.1 0 (.string u)) 1 (.string n)
      refine bodyPost_ret (results_cell_tmp (P := Tryz.prog) Tryz.results80 _ _ w.heap.size 32 #[.string u, .string n] (0, 0) _ rfl h3 Tryz.underlying32 rfl (by kernel_rfl)) rfl ⟨?_, ?_⟩
      · rw [HV.out]; rfl
      · exact (H7.out.2.setCell (Nat.le_refl _) _).setCell (Nat.le_refl _) _
    · have hv : v = .tuple #[.agg #[.string ByteArray.empty, .string ByteArray.empty], .bool false] := by rw [← HU.out.2.2, decide_eq_false hok]; rfl
      have HP : Box (∀ W : World, Calls Tryz.prog 38 #[.agg #[.string u, .string n]] W fun e w' => e = .returned (.tuple #[.string ByteArray.empty, .bool false]) ∧ Below W.heap.size W w') := ⟨fun W => putHello_no u n W (fun e => hok ⟨by have := e.2.1; omega, by have := e.2.2; omega⟩)⟩
      have HV : Box _ := ⟨hv⟩
      clear hv hok
      go_wp2_with fail
      refine (HP.out _).mono ?_
      rintro e w7 ⟨rfl, hb7⟩
      have hR7 := Blk.below HR2.out hb7
      have H7 : Box _ := ⟨And.intro hR7 (HB.out.trans (hb7.mono HB.out.size))⟩
      have r0 : w7.cell? ⟨w.heap.size, 0, none⟩ = some (.string ⟨#[]⟩) := Blk.cell hR7 0
      have r1 : w7.cell? ⟨w.heap.size, 1, none⟩ = some (.string ⟨#[]⟩) := Blk.cell hR7 1
      have f0 : w7.frozen? ⟨w.heap.size, 0, none⟩ = false := Blk.free hR7 0
      have f1 : w7.frozen? ⟨w.heap.size, 1, none⟩ = false := Blk.free hR7 1
      clear hb7 hR7 c0 c1
      go_wp2
      have h3 := Blk.set (Blk.set H7.out.1 0 (.string ⟨#[]⟩)) 1 (.string ⟨#[]⟩)
      refine bodyPost_ret (results_cell_tmp (P := Tryz.prog) Tryz.results80 _ _ w.heap.size 32 #[.string ⟨#[]⟩, .string ⟨#[]⟩] (0, 0) _ rfl h3 Tryz.underlying32 rfl (by kernel_rfl)) rfl ⟨?_, ?_⟩
      · rw [HV.out]; rfl
      · exact (H7.out.2.setCell (Nat.le_refl _) _).setCell (Nat.le_refl _) _

theorem getHello_any (b : ByteArray) (w : World) (hs : b.size ≤ 1000000000) : Calls Tryz.prog 80 #[.string b] w fun e w' => e = .returned (if isHello b then .tuple #[.agg #[.string (helloUser b), .string (helloNonce b)], .bool true] else .tuple #[.agg #[.string ByteArray.empty, .string ByteArray.empty], .bool false]) ∧ Below w.heap.size w w' := by
  by_cases h : 2 ≤ b.size ∧ byteAt b 0 = 1 ∧ b.size = 18 + byteAt b 1
  · exact getHello_long b w hs h.1 h.2.1 h.2.2
  · rw [isHello_no (fun e => h ⟨e.1, e.2.1, e.2.2.1⟩)]
    exact getHello_short b w h
end Go.Proofs.YtkcfbipnhnboaaaGreat

namespace Go.Proofs.YtkcfbipnhnboaaaGreat
open Go.RowKit

set_option maxHeartbeats 1000000 in
set_option maxRecDepth 100000 in
theorem finish_nil (b : ByteArray) (w : World) : Calls Tryz.prog 22 #[.pointer none, .string b] w fun e w' => e = .returned (.tuple #[.agg #[.string ByteArray.empty, .string ByteArray.empty], .int .i64 7]) ∧ Below w.heap.size w w' := by
  have HA : Box (∀ W : World, Calls Tryz.prog 45 #[.pointer none, .int .i64 1] W fun e w' => e = .returned (.bool false) ∧ W = w') := ⟨fun W => gAt_nil 1 W⟩
  go_enter Tryz.func22, Tryz.ntmps22
  go_wp2_with fail
  refine (HA.out _).mono ?_
  rintro e w1 ⟨rfl, hw1⟩
  have hR : Blk w1 w.heap.size 44 #[.string ⟨#[]⟩, .string ⟨#[]⟩] := by rw [← hw1]; exact Blk.new w _
  have hb : Below w.heap.size w w1 := by rw [← hw1]; exact (Below.refl _ _).alloc (Nat.le_refl _) _
  have HR : Box _ := ⟨And.intro hR hb⟩
  have c0 : w1.cell? ⟨w.heap.size, 0, none⟩ = some (.string ⟨#[]⟩) := Blk.cell hR 0
  have c1 : w1.cell? ⟨w.heap.size, 1, none⟩ = some (.string ⟨#[]⟩) := Blk.cell hR 1
  have f0 : w1.frozen? ⟨w.heap.size, 0, none⟩ = false := Blk.free hR 0
  have f1 : w1.frozen? ⟨w.heap.size, 1, none⟩ = false := Blk.free hR 1
  clear hR hb hw1
  go_wp2
  have h3 := Blk.set (Blk.set HR.out.1 0 (.string ⟨#[]⟩)) 1 (.string ⟨#[]⟩)
  refine bodyPost_ret (results_cell_tmp (P := Tryz.prog) Tryz.results22 _ _ w.heap.size 44 #[.string ⟨#[]⟩, .string ⟨#[]⟩] (0, 0) _ rfl h3 Tryz.underlying44 rfl (by kernel_rfl)) rfl ⟨rfl, ?_⟩
  exact (HR.out.2.setCell (Nat.le_refl _) _).setCell (Nat.le_refl _) _
end Go.Proofs.YtkcfbipnhnboaaaGreat

namespace Go.Proofs.YtkcfbipnhnboaaaGreat
open Go.RowKit

set_option maxHeartbeats 1000000 in
set_option maxRecDepth 100000 in
theorem finish_state (g : Nat) (u s h p : ByteArray) (t : Nat) (b : ByteArray) (w : World) (hh : 0 < h.size) (ht : t ≠ 1) (hb : Blk w g 90 (guestC u s h p t)) : Calls Tryz.prog 22 #[.pointer (some ⟨g, 0, none⟩), .string b] w fun e w' => e = .returned (.tuple #[.agg #[.string ByteArray.empty, .string ByteArray.empty], .int .i64 7]) ∧ Below w.heap.size w w' := by
  have HA : Box (Calls Tryz.prog 45 #[.pointer (some ⟨g, 0, none⟩), .int .i64 1] (w.alloc (.cells #[.string ⟨#[]⟩, .string ⟨#[]⟩] 44)) fun e w' => e = .returned (.bool false) ∧ (w.alloc (.cells #[.string ⟨#[]⟩, .string ⟨#[]⟩] 44)) = w') := ⟨by
    have hat := gAt_any g u s h p t 1 (w.alloc (.cells #[.string ⟨#[]⟩, .string ⟨#[]⟩] 44)) hh (Blk.alloc hb _)
    rw [decide_eq_false ht] at hat
    exact hat⟩
  clear hb
  go_enter Tryz.func22, Tryz.ntmps22
  go_wp2_with fail
  refine HA.out.mono ?_
  rintro e w1 ⟨rfl, hw1⟩
  have hR : Blk w1 w.heap.size 44 #[.string ⟨#[]⟩, .string ⟨#[]⟩] := by rw [← hw1]; exact Blk.new w _
  have hb : Below w.heap.size w w1 := by rw [← hw1]; exact (Below.refl _ _).alloc (Nat.le_refl _) _
  have HR : Box _ := ⟨And.intro hR hb⟩
  have c0 : w1.cell? ⟨w.heap.size, 0, none⟩ = some (.string ⟨#[]⟩) := Blk.cell hR 0
  have c1 : w1.cell? ⟨w.heap.size, 1, none⟩ = some (.string ⟨#[]⟩) := Blk.cell hR 1
  have f0 : w1.frozen? ⟨w.heap.size, 0, none⟩ = false := Blk.free hR 0
  have f1 : w1.frozen? ⟨w.heap.size, 1, none⟩ = false := Blk.free hR 1
  clear hR hb hw1
  go_wp2
  have h3 := Blk.set (Blk.set HR.out.1 0 (.string ⟨#[]⟩)) 1 (.string ⟨#[]⟩)
  refine bodyPost_ret (results_cell_tmp (P := Tryz.prog) Tryz.results22 _ _ w.heap.size 44 #[.string ⟨#[]⟩, .string ⟨#[]⟩] (0, 0) _ rfl h3 Tryz.underlying44 rfl (by kernel_rfl)) rfl ⟨rfl, ?_⟩
  exact (HR.out.2.setCell (Nat.le_refl _) _).setCell (Nat.le_refl _) _

set_option maxHeartbeats 1000000 in
set_option maxRecDepth 100000 in
theorem finish_form (g : Nat) (u s h p : ByteArray) (b : ByteArray) (w : World) (hh : 0 < h.size) (hbs : b.size ≤ 1000000) (hf : isFixed 4 32 b = false) (hb : Blk w g 90 (guestC u s h p 1)) : Calls Tryz.prog 22 #[.pointer (some ⟨g, 0, none⟩), .string b] w fun e w' => e = .returned (.tuple #[.agg #[.string ByteArray.empty, .string ByteArray.empty], .int .i64 2]) ∧ Below w.heap.size w w' := by
  have HA : Box (Calls Tryz.prog 45 #[.pointer (some ⟨g, 0, none⟩), .int .i64 1] (w.alloc (.cells #[.string ⟨#[]⟩, .string ⟨#[]⟩] 44)) fun e w' => e = .returned (.bool true) ∧ (w.alloc (.cells #[.string ⟨#[]⟩, .string ⟨#[]⟩] 44)) = w') := ⟨by
    have hat := gAt_any g u s h p 1 1 (w.alloc (.cells #[.string ⟨#[]⟩, .string ⟨#[]⟩] 44)) hh (Blk.alloc hb _)
    rw [decide_eq_true rfl] at hat
    exact hat⟩
  have HG : Box (∀ W : World, Calls Tryz.prog 52 #[.string b] W fun e w' => e = .returned (.tuple #[.agg #[.string (fixedB 4 32 b)], .bool false]) ∧ Below W.heap.size W w') := ⟨fun W => by have := getFinish_any b W (by omega); rw [hf] at this; exact this⟩
  obtain ⟨x, hx⟩ : ∃ x, fixedB 4 32 b = x := ⟨_, rfl⟩
  rw [hx] at HG
  clear hb hx hf
  go_enter Tryz.func22, Tryz.ntmps22
  go_wp2_with fail
  refine HA.out.mono ?_
  rintro e w1 ⟨rfl, hw1⟩
  have hR : Blk w1 w.heap.size 44 #[.string ⟨#[]⟩, .string ⟨#[]⟩] := by rw [← hw1]; exact Blk.new w _
  have hb : Below w.heap.size w w1 := by rw [← hw1]; exact (Below.refl _ _).alloc (Nat.le_refl _) _
  have HR : Box _ := ⟨And.intro hR hb⟩
  clear hR hb hw1
  go_wp2_with fail
  refine (HG.out _).mono ?_
  rintro e w2 ⟨rfl, hb2⟩
  have hR2 := Blk.below HR.out.1 hb2
  have hB2 := HR.out.2.trans (hb2.mono HR.out.2.size)
  have H2 : Box _ := ⟨And.intro hR2 hB2⟩
  have hlt := Blk.lt hR2
  have c0 : w2.cell? ⟨w.heap.size, 0, none⟩ = some (.string ⟨#[]⟩) := Blk.cell hR2 0
  have c1 : w2.cell? ⟨w.heap.size, 1, none⟩ = some (.string ⟨#[]⟩) := Blk.cell hR2 1
  have f0 : w2.frozen? ⟨w.heap.size, 0, none⟩ = false := Blk.free hR2 0
  have f1 : w2.frozen? ⟨w.heap.size, 1, none⟩ = false := Blk.free hR2 1
  clear hb2 hR2 hB2
  go_wp2
  have h3 := Blk.alloc (Blk.set (Blk.set H2.out.1 0 (.string ⟨#[]⟩)) 1 (.string ⟨#[]⟩)) (.cells #[.string x] 102)
  refine bodyPost_ret (results_cell_tmp (P := Tryz.prog) Tryz.results22 _ _ w.heap.size 44 #[.string ⟨#[]⟩, .string ⟨#[]⟩] (0, 0) _ rfl h3 Tryz.underlying44 rfl (by kernel_rfl)) rfl ⟨rfl, ?_⟩
  exact ((H2.out.2.setCell (Nat.le_refl _) _).setCell (Nat.le_refl _) _).alloc (by rw [World.size_setCell, World.size_setCell]; exact H2.out.2.size) _

/-- What Finish comes to behind a finish of the right form. -/
def FinishEnd (g : Nat) (u s h p x : ByteArray) (w : World) (e : Ending) (w' : World) : Prop :=
  if x = finishB s p then e = .returned (.tuple #[.agg #[.string (upOf s p), .string (downOf s p)], .int .i64 0]) ∧ Blk w' g 90 (guestC u s h p 2) ∧ w.grownBy w' (some g)
  else e = .returned (.tuple #[.agg #[.string ByteArray.empty, .string ByteArray.empty], .int .i64 3]) ∧ Below w.heap.size w w'

set_option maxHeartbeats 1000000 in
set_option maxRecDepth 100000 in
theorem finish_mac (g : Nat) (u s h p : ByteArray) (b : ByteArray) (w : World) (hh : 0 < h.size) (hss : s.size ≤ 100000) (hps : p.size ≤ 1000000) (hbs : b.size ≤ 1000000) (hf : isFixed 4 32 b = true) (hb : Blk w g 90 (guestC u s h p 1)) : Calls Tryz.prog 22 #[.pointer (some ⟨g, 0, none⟩), .string b] w (FinishEnd g u s h p (fixedB 4 32 b) w) := by
  have HA : Box (Calls Tryz.prog 45 #[.pointer (some ⟨g, 0, none⟩), .int .i64 1] (w.alloc (.cells #[.string ⟨#[]⟩, .string ⟨#[]⟩] 44)) fun e w' => e = .returned (.bool true) ∧ (w.alloc (.cells #[.string ⟨#[]⟩, .string ⟨#[]⟩] 44)) = w') := ⟨by
    have hat := gAt_any g u s h p 1 1 (w.alloc (.cells #[.string ⟨#[]⟩, .string ⟨#[]⟩] 44)) hh (Blk.alloc hb _)
    rw [decide_eq_true rfl] at hat
    exact hat⟩
  have HG : Box (∀ W : World, Calls Tryz.prog 52 #[.string b] W fun e w' => e = .returned (.tuple #[.agg #[.string (fixedB 4 32 b)], .bool true]) ∧ Below W.heap.size W w') := ⟨fun W => by have := getFinish_any b W (by omega); rw [hf] at this; exact this⟩
  have hxs : (fixedB 4 32 b).size ≤ 1000000 := by
    rw [fixedB]
    split
    · rw [ByteArray.size_extract]; omega
    · decide
  obtain ⟨x, hx⟩ : ∃ x, fixedB 4 32 b = x := ⟨_, rfl⟩
  rw [hx] at HG hxs ⊢
  have hfs := finishB_size s p
  have HFI : Box (∀ W : World, Calls Tryz.prog 54 #[.string s, .string p] W fun e w' => e = .returned (.string (finishB s p)) ∧ Below W.heap.size W w') := ⟨fun W => finish_any s p W (by omega) (by omega)⟩
  have HSA : Box (∀ W : World, Calls Tryz.prog 53 #[.string x, .string (finishB s p)] W fun e w' => e = .returned (.bool (decide (x = finishB s p))) ∧ Below W.heap.size W w') := ⟨fun W => same_any x (finishB s p) W (by omega) (by omega)⟩
  have HK : Box (∀ W : World, Calls Tryz.prog 55 #[.string s, .string p] W fun e w' => e = .returned (.agg #[.string (upOf s p), .string (downOf s p)]) ∧ Below W.heap.size W w') := ⟨fun W => keys_any s p W (by omega) (by omega)⟩
  have hpost : ∀ e w', FinishEnd g u s h p x w e w' = FinishEnd g u s h p x w e w' := fun _ _ => rfl
  have hfe : ∀ e w', (if x = finishB s p then e = .returned (.tuple #[.agg #[.string (upOf s p), .string (downOf s p)], .int .i64 0]) ∧ Blk w' g 90 (guestC u s h p 2) ∧ w.grownBy w' (some g)
    else e = .returned (.tuple #[.agg #[.string ByteArray.empty, .string ByteArray.empty], .int .i64 3]) ∧ Below w.heap.size w w') → FinishEnd g u s h p x w e w' := fun _ _ h => h
  have HE : Box _ := ⟨hfe⟩
  have hB0 : Blk (w.alloc (.cells #[.string ⟨#[]⟩, .string ⟨#[]⟩] 44)) g 90 (guestC u s h p 1) := Blk.alloc hb _
  have HB0 : Box _ := ⟨hB0⟩
  have hgl := Blk.lt hb
  obtain ⟨m, hm⟩ : ∃ m, finishB s p = m := ⟨_, rfl⟩
  obtain ⟨ku, hku⟩ : ∃ ku, upOf s p = ku := ⟨_, rfl⟩
  obtain ⟨kd, hkd⟩ : ∃ kd, downOf s p = kd := ⟨_, rfl⟩
  rw [hm] at HFI HSA HE
  rw [hku, hkd] at HK HE
  obtain ⟨d, hd⟩ : ∃ d, decide (x = m) = d := ⟨_, rfl⟩
  rw [hd] at HSA
  have HD : Box _ := ⟨hd⟩
  clear hb hx hf hfe hpost hm hku hkd hfs hd hB0
  go_enter Tryz.func22, Tryz.ntmps22
  go_wp2_with fail
  refine HA.out.mono ?_
  rintro e w1 ⟨rfl, hw1⟩
  have hR : Blk w1 w.heap.size 44 #[.string ⟨#[]⟩, .string ⟨#[]⟩] := by rw [← hw1]; exact Blk.new w _
  have hb : Below w.heap.size w w1 := by rw [← hw1]; exact (Below.refl _ _).alloc (Nat.le_refl _) _
  have hG1 : Blk w1 g 90 (guestC u s h p 1) := by rw [← hw1]; exact HB0.out
  have HR : Box _ := ⟨And.intro hR (And.intro hb hG1)⟩
  clear hR hb hw1 hG1
  go_wp2_with fail
  refine (HG.out _).mono ?_
  rintro e w2 ⟨rfl, hb2⟩
  have H2 : Box _ := ⟨And.intro (Blk.below HR.out.1 hb2) (And.intro (HR.out.2.1.trans (hb2.mono HR.out.2.1.size)) (Blk.below HR.out.2.2 hb2))⟩
  clear hb2
  go_wp2_with fail
  obtain ⟨w5, hw5⟩ : ∃ w5, w2.alloc (.cells #[.string x] 102) = w5 := ⟨_, rfl⟩
  rw [hw5]
  have hX5 : Blk w5 w2.heap.size 102 #[.string x] := by rw [← hw5]; exact Blk.new w2 _
  have hR5 : Blk w5 w.heap.size 44 #[.string ⟨#[]⟩, .string ⟨#[]⟩] := by rw [← hw5]; exact Blk.alloc H2.out.1 _
  have hG5 : Blk w5 g 90 (guestC u s h p 1) := by rw [← hw5]; exact Blk.alloc H2.out.2.2 _
  have hB5 : Below w.heap.size w w5 := by rw [← hw5]; exact H2.out.2.1.alloc H2.out.2.1.size _
  have c1 : w5.cell? ⟨g, 1, none⟩ = some (.string s) := Blk.cell hG5 1
  have c3 : w5.cell? ⟨g, 3, none⟩ = some (.string p) := Blk.cell hG5 3
  have cx : w5.cell? ⟨w2.heap.size, 0, none⟩ = some (.string x) := Blk.cell hX5 0
  have H5 : Box _ := ⟨And.intro hX5 (And.intro hR5 (And.intro hG5 hB5))⟩
  clear hw5 hX5 hR5 hG5 hB5
  go_cut [21] (fun v W => v = .bool (!d) ∧ Box (Blk W w.heap.size 44 #[.string ⟨#[]⟩, .string ⟨#[]⟩]) ∧ Box (Blk W g 90 (guestC u s h p 1)) ∧ Box (Below w.heap.size w W))
  case first =>
    go_region_with (first | (go_at_call 54; refine (HFI.out _).mono ?_; rintro e w6 ⟨rfl, hb6⟩; have hx6 : w6.cell? ⟨w2.heap.size, 0, none⟩ = some (.string x) := Blk.cell (Blk.below (Blk.drew H5.out.1) hb6) 0; have HB6 : Box _ := ⟨hb6⟩; clear hb6) | (go_at_call 53; refine (HSA.out _).mono ?_; rintro e w7 ⟨rfl, hb7⟩; have HB7 : Box _ := ⟨hb7⟩; clear hb7))
    all_goals
      go_wp2_with fail
      go_meet
      have hbb := (H5.out.2.2.2.drew.trans (HB6.out.mono H5.out.2.2.2.size))
      refine ⟨rfl, ⟨Blk.below (Blk.below (Blk.drew H5.out.2.1) HB6.out) HB7.out⟩, ⟨Blk.below (Blk.below (Blk.drew H5.out.2.2.1) HB6.out) HB7.out⟩, ⟨hbb.trans (HB7.out.mono hbb.size)⟩⟩
  case rest =>
    obtain ⟨rfl, HRc, HGc, HBc⟩ := hcut
    clear c1 c3 cx
    cases d with
    | false =>
      have hne : ¬ x = m := of_decide_eq_false HD.out
      have HNE : Box _ := ⟨hne⟩
      have c0 : wc.cell? ⟨w.heap.size, 0, none⟩ = some (.string ⟨#[]⟩) := Blk.cell HRc.out 0
      have c1 : wc.cell? ⟨w.heap.size, 1, none⟩ = some (.string ⟨#[]⟩) := Blk.cell HRc.out 1
      have f0 : wc.frozen? ⟨w.heap.size, 0, none⟩ = false := Blk.free HRc.out 0
      have f1 : wc.frozen? ⟨w.heap.size, 1, none⟩ = false := Blk.free HRc.out 1
      clear hne
      go_wp2
      have h3 := Blk.set (Blk.set HRc.out 0 (.string ⟨#[]⟩)) 1 (.string ⟨#[]⟩)
      refine bodyPost_ret (results_cell_tmp (P := Tryz.prog) Tryz.results22 _ _ w.heap.size 44 #[.string ⟨#[]⟩, .string ⟨#[]⟩] (0, 0) _ rfl h3 Tryz.underlying44 rfl (by kernel_rfl)) rfl (HE.out _ _ ?_)
      rw [if_neg HNE.out]
      exact ⟨rfl, (HBc.out.setCell (Nat.le_refl _) _).setCell (Nat.le_refl _) _⟩
    | true =>
      have heq : x = m := of_decide_eq_true HD.out
      have HEQ : Box _ := ⟨heq⟩
      clear heq
      go_wp2_with fail
      refine (i64Store ⟨g, 4, none⟩ 2 _ _ (Blk.cell HGc.out 4) (Blk.free HGc.out 4)).mono ?_
      rintro e w8 ⟨rfl, hw8⟩
      have hG8 : Blk w8 g 90 (guestC u s h p 2) := by rw [hw8]; exact Blk.set HGc.out 4 _
      have hR8 : Blk w8 w.heap.size 44 #[.string ⟨#[]⟩, .string ⟨#[]⟩] := by rw [hw8]; exact Blk.far HRc.out (by show w.heap.size ≠ g; omega) _
      have hB8 : w.grownBy w8 (some g) := by rw [hw8]; exact grown_set_more (grown_below HBc.out _) 4 _
      have d1 : w8.cell? ⟨g, 1, none⟩ = some (.string s) := Blk.cell hG8 1
      have d3 : w8.cell? ⟨g, 3, none⟩ = some (.string p) := Blk.cell hG8 3
      have H8 : Box _ := ⟨And.intro hG8 (And.intro hR8 hB8)⟩
      clear hw8 hG8 hR8 hB8
      go_wp2_with fail
      go_region_with (go_at_call 55; refine (HK.out _).mono ?_; rintro e w9 ⟨rfl, hb9⟩; have hR9 := Blk.below (Blk.drew H8.out.2.1) hb9; have r0 : w9.cell? ⟨w.heap.size, 0, none⟩ = some (.string ⟨#[]⟩) := Blk.cell hR9 0; have r1 : w9.cell? ⟨w.heap.size, 1, none⟩ = some (.string ⟨#[]⟩) := Blk.cell hR9 1; have g0 : w9.frozen? ⟨w.heap.size, 0, none⟩ = false := Blk.free hR9 0; have g1 : w9.frozen? ⟨w.heap.size, 1, none⟩ = false := Blk.free hR9 1; have HB9 : Box _ := ⟨hb9⟩; have HR9 : Box _ := ⟨hR9⟩; clear hb9 hR9)
      all_goals
        go_wp2
        have h3 := Blk.set (Blk.set HR9.out 0 (.string ku)) 1 (.string kd)
        refine bodyPost_ret (results_cell_tmp (P := Tryz.prog) Tryz.results22 _ _ w.heap.size 44 #[.string ku, .string kd] (0, 0) _ rfl h3 Tryz.underlying44 rfl (by kernel_rfl)) rfl (HE.out _ _ ?_)
        rw [if_pos HEQ.out]
        refine ⟨rfl, Blk.far (Blk.far (Blk.below (Blk.drew H8.out.1) HB9.out) (by show g ≠ w.heap.size; omega) _) (by show g ≠ w.heap.size; omega) _, ?_⟩
        have hq : w.grownBy _ (some g) := grown_trans (grown_drew H8.out.2.2) (grown_below HB9.out none) (by simp)
        exact grown_trans (grown_trans hq (grown_set _ ⟨w.heap.size, 0, none⟩ (.string ku)) (by intro k hk; cases hk; exact .inr (Nat.le_refl _))) (grown_set _ ⟨w.heap.size, 1, none⟩ (.string kd)) (by intro k hk; cases hk; exact .inr (Nat.le_refl _))
end Go.Proofs.YtkcfbipnhnboaaaGreat
