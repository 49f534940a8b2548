/- Package pad: Sizes, Size. -/
import Derived.Test.YtdmdkkdkmmkalaaGreatPadA
namespace Go.Proofs.YtdmdkkdkmmkalaaGreat
open Go.RowKit Go.MuLone

theorem made1_enters (args : Array Value) (w : World) : (callFunc 52 args).run Tryz.prog w = .ok (.enter 52 args) w :=
  run_callFunc_enter Tryz.func52 (by kernel_rfl) rfl args w

/-- What Do leaves here. -/
def SizesQ (b p : Nat) (w0 : World) (w2 : World) : Prop :=
  ∃ v, Blk w2 b 56 #[.int .u32 0, .int .i32 1, .int .u32 0, v] ∧ w2.ownsRow (p + 1) 3 1 v 4 (intVals sizesL) ∧ Below b w0 w2 ∧ w2.cell? ⟨p, 0, none⟩ = some (.pointer (some ⟨b, 0, none⟩))

set_option maxRecDepth 100000 in
set_option maxHeartbeats 1000000 in
theorem sizesMade (b : Nat) (w : World) (hb : Blk w b 56 #[.int .u32 0, .int .i32 0, .int .u32 0, .slice none 0 0]) :
    Calls Tryz.prog 16 #[.pointer (some ⟨b, 0, none⟩)] w fun e w' => ∃ v, e = .returned v ∧ w'.ownsRow w.heap.size 3 1 v 4 (intVals sizesL) ∧ Below b w w' := by
  have hmf : ∀ (fn : Fn) (first cap : Array Value) (w : World), (Instr.makeFunc fn first cap).run Tryz.prog w = .ok (.func fn first cap) w := fun _ _ _ _ => rfl
  have hbl := Blk.lt hb
  obtain ⟨wa, hwa⟩ : ∃ wa, wa = w.alloc (.cells #[.pointer (some ⟨b, 0, none⟩)] 76) := ⟨_, rfl⟩
  have hba : Blk wa b 56 #[.int .u32 0, .int .i32 0, .int .u32 0, .slice none 0 0] := by rw [hwa]; exact Blk.alloc hb _
  have hpa : Blk wa w.heap.size 76 #[.pointer (some ⟨b, 0, none⟩)] := by rw [hwa]; exact Blk.new w _
  have hsa : wa.heap.size = w.heap.size + 1 := by rw [hwa]; simp
  have hbel : Below b w wa := by rw [hwa]; exact (Below.refl _ _).alloc (by omega) _
  have hdo : Calls Tryz.prog 51 #[.pointer (some ⟨b, 0, none⟩), .func (.func 52) #[] #[.pointer (some ⟨w.heap.size, 0, none⟩)]] wa (OnceEnd b 0 (SizesQ b w.heap.size w)) := by
    refine do_first b 0 _ _ _ _ (Blk.cell hba 0) (Blk.cell hba 1) (Blk.free hba 1) (made1_enters _) ?_
    have h1 : Blk (wa.setCell ⟨b, 0 + 1, none⟩ (.int .i32 1)) b 56 #[.int .u32 0, .int .i32 1, .int .u32 0, .slice none 0 0] := Blk.set hba 1 _
    have h2 : Blk (wa.setCell ⟨b, 0 + 1, none⟩ (.int .i32 1)) w.heap.size 76 #[.pointer (some ⟨b, 0, none⟩)] := Blk.far hpa (by show w.heap.size ≠ b; omega) _
    have h3 : (wa.setCell ⟨b, 0 + 1, none⟩ (.int .i32 1)).heap.size = w.heap.size + 1 := by rw [World.size_setCell, hsa]
    refine (sizesFn b b w.heap.size _ (by omega) (Nat.le_refl _) (Blk.cell h2 0) h1).mono ?_
    rintro e w2 ⟨rfl, v, hv, hown, hbel2, hpc⟩
    exact ⟨rfl, Blk.cell hv 0, Blk.free hv 0, Blk.cell hv 1, Blk.free hv 1, v, hv, by rw [h3] at hown; exact hown, (hbel.setCell (Nat.le_refl _) _).trans hbel2, hpc⟩
  go_enter Tryz.func16, Tryz.ntmps16
  go_wp2_with fail
  have HD := Lib.hid hdo
  rw [← hwa]
  clear hwa hdo
  refine HD.out.mono ?_
  rintro e w' ⟨rfl, w2, ⟨v, hv, hown, hb2, hpc⟩, rfl⟩
  obtain ⟨w3, hw3⟩ : ∃ w3, w3 = (w2.drew.setCell ⟨b, 0, none⟩ (.int .u32 1)).setCell ⟨b, 0 + 1, none⟩ (.int .i32 0) := ⟨_, rfl⟩
  rw [← hw3]
  have h5 : Blk w3 b 56 #[.int .u32 1, .int .i32 0, .int .u32 0, v] := by rw [hw3]; exact Blk.set (Blk.set (Blk.drew hv) 0 _) 1 _
  have hpc3 : w3.cell? ⟨w.heap.size, 0, none⟩ = some (.pointer (some ⟨b, 0, none⟩)) := by
    rw [hw3, World.cell?_setCell_other _ _ _ _ (by first | (simp; done) | (simp; omega)), World.cell?_setCell_other _ _ _ _ (by first | (simp; done) | (simp; omega)), World.cell?_drew]; exact hpc
  have hv3 : v.ownBlock ≠ some b := fun e => by have := own_base hown b e; omega
  have hown3 : w3.ownsRow (w.heap.size + 1) 3 1 v 4 (intVals sizesL) := by
    rw [hw3]; exact ownsRow_setCell_other (ownsRow_setCell_other hown.drew hv3 _) hv3 _
  have hb3 : Below b w w3 := by rw [hw3]; exact (hb2.drew.setCell (Nat.le_refl _) _).setCell (Nat.le_refl _) _
  clear hw3
  obtain ⟨A, c, rfl⟩ := own_slice hown3
  have hc3 : w3.cell? ⟨b, 3, none⟩ = some (.slice A 4 c) := Blk.cell h5 3
  go_wp2
  go_ret
  exact ⟨_, rfl, own_weaken hown3 (by omega), hb3⟩

theorem sizesZero (w : World) : (zeroValue 56).run Tryz.prog w = .ok (.agg #[.int .u32 0, .int .i32 0, .int .u32 0, .slice none 0 0]) w := by kernel_rfl

set_option maxRecDepth 100000 in
set_option maxHeartbeats 1000000 in
theorem sizes_any (w : World) :
    Calls Tryz.prog 6 #[] w fun e w' => ∃ v, e = .returned v ∧ w'.ownsRow w.heap.size 3 1 v 4 (intVals sizesL) ∧ Below w.heap.size w w' := by
  have hbn := Blk.new w (.cells #[.int .u32 0, .int .i32 0, .int .u32 0, .slice none 0 0] 56)
  have hz := sizesZero
  go_enter Tryz.func6, Tryz.ntmps6
  go_wp2_with fail
  refine (sizesMade w.heap.size _ hbn).mono ?_
  rintro e w' ⟨v, rfl, hown, hb⟩
  obtain ⟨A, c, rfl⟩ := own_slice hown
  go_wp2
  go_ret
  exact ⟨_, rfl, own_weaken hown (by simp), ((Below.refl _ _).alloc (Nat.le_refl _) _).trans hb⟩
/-- The size, looked for from place k on; 0: none. -/
def padFrom (n : Int) : Nat → Nat → Nat
  | 0, _ => 0
  | f + 1, k => if 0 ≤ n ∧ n ≤ (sizesL.getD k 0 : Nat) - 2 then sizesL.getD k 0 else padFrom n f (k + 1)
/-- The size of a text of n bytes; 0: there is none. -/
def padSz (n : Int) : Nat := padFrom n 4 0

set_option maxRecDepth 100000 in
set_option maxHeartbeats 1000000 in
theorem size_any (n : Int) (w : World) :
    Calls Tryz.prog 7 #[.int .i64 n] w fun e w' => e = .returned (.tuple #[.int .i64 (padSz n : Nat), .bool (padSz n != 0)]) ∧ Below w.heap.size w w' := by
  go_enter Tryz.func7, Tryz.ntmps7
  go_wp2_with fail
  refine (sizes_any _).mono ?_
  rintro e w1 ⟨v, rfl, hown, hb⟩
  obtain ⟨g, c, rfl⟩ := own_pos hown (by decide)
  go_wp2
  go_loop [8] (fun i => ∃ k : Nat, k ≤ 4 ∧ i = .int .i64 k ∧ padFrom n (4 - k) k = padSz n) (fun i => 4 - (intOf i).toNat)
  case atStart => exact ⟨0, by omega, rfl, rfl⟩
  case round =>
    obtain ⟨k, hk, rfl, hpf⟩ := hrel
    have HP := Lib.hid hpf
    clear hpf
    by_cases hlt : k < 4
    · obtain ⟨s, hs⟩ : ∃ s : Nat, sizesL.getD k 0 = s := ⟨_, rfl⟩
      have hc := World.ownsRow.cellAt hown k (by omega)
      rw [show (intVals sizesL)[k]? = some (.int .i64 (s : Nat)) from by rw [← hs]; simp [intVals, List.getD]; rw [List.getElem?_eq_getElem (by simpa [sizesL] using hlt)]; simp] at hc
      have hs2 : 2 ≤ s ∧ s ≤ 2048 := by
        obtain rfl | rfl | rfl | rfl : k = 0 ∨ k = 1 ∨ k = 2 ∨ k = 3 := by omega
        all_goals (subst hs; decide)
      have HS := Lib.hid hs
      clear hs hown
      have hpf := HP.out
      rw [show 4 - k = (4 - (k + 1)) + 1 by omega] at hpf
      simp only [padFrom, HS.out] at hpf
      have HQ := Lib.hid hpf
      clear hpf
      by_cases h0 : 0 ≤ n
      · by_cases h1 : n ≤ (s : Int) - 2
        · go_wp2
          go_ret2
          have := HQ.out
          rw [if_pos ⟨h0, h1⟩] at this
          rw [← this]
          refine ⟨?_, hb⟩
          have hne : (s != 0) = true := by simp; omega
          rw [hne]
          rfl
        · go_wp2
          have := HQ.out
          rw [if_neg (by omega)] at this
          exact ⟨⟨k + 1, by omega, by go_num, this⟩, by simp [intOf]; omega⟩
      · go_wp2
        have := HQ.out
        rw [if_neg (by omega)] at this
        exact ⟨⟨k + 1, by omega, by go_num, this⟩, by simp [intOf]; omega⟩
    · obtain rfl : k = 4 := by omega
      go_wp2
      go_ret2
      have := HP.out
      simp only [padFrom, Nat.sub_self] at this
      rw [← this]
      exact ⟨rfl, hb⟩

set_option maxRecDepth 100000 in
set_option maxHeartbeats 1000000 in
theorem refSize_any (n : Int) (w : World) :
    Calls Tryz.prog 8 #[.int .i64 n] w fun e w' => e = .returned (.tuple #[.int .i64 (padSz n : Nat), .bool (padSz n != 0)]) ∧ Below w.heap.size w w' := by
  have hb := (Below.refl w.heap.size w).alloc (Nat.le_refl _) (.cells (intVals sizesL).toArray 3)
  have hbk : Blk (w.alloc (.cells (intVals sizesL).toArray 3)) w.heap.size 3 (intVals sizesL).toArray := Blk.new _ _
  obtain ⟨w1, hw1⟩ : ∃ w1, w1 = w.alloc (.cells #[.int .i64 32, .int .i64 128, .int .i64 512, .int .i64 2048] 3) := ⟨_, rfl⟩
  rw [show w.alloc (.cells (intVals sizesL).toArray 3) = w1 from hw1.symm] at hb hbk
  have HW := Lib.hid hw1
  clear hw1
  go_enter Tryz.func8, Tryz.ntmps8
  go_wp2
  rw [← HW.out]
  go_loop [5] (fun i => ∃ k : Nat, k ≤ 4 ∧ i = .int .i64 k ∧ padFrom n (4 - k) k = padSz n) (fun i => 4 - (intOf i).toNat)
  case atStart => exact ⟨0, by omega, rfl, rfl⟩
  case round =>
    obtain ⟨k, hk, rfl, hpf⟩ := hrel
    have HP := Lib.hid hpf
    clear hpf
    by_cases hlt : k < 4
    · obtain ⟨s, hs⟩ : ∃ s : Nat, sizesL.getD k 0 = s := ⟨_, rfl⟩
      have hc := Blk.cell hbk k
      rw [show (intVals sizesL).toArray[k]? = some (.int .i64 (s : Nat)) from by rw [← hs]; simp [intVals, List.getD]; rw [List.getElem?_eq_getElem (by simpa [sizesL] using hlt)]; simp] at hc
      have hs2 : 2 ≤ s ∧ s ≤ 2048 := by
        obtain rfl | rfl | rfl | rfl : k = 0 ∨ k = 1 ∨ k = 2 ∨ k = 3 := by omega
        all_goals (subst hs; decide)
      have HS := Lib.hid hs
      clear hs hbk
      have hpf := HP.out
      rw [show 4 - k = (4 - (k + 1)) + 1 by omega] at hpf
      simp only [padFrom, HS.out] at hpf
      have HQ := Lib.hid hpf
      clear hpf
      by_cases h0 : 0 ≤ n
      · by_cases h1 : n ≤ (s : Int) - 2
        · go_wp2
          go_ret2
          have := HQ.out
          rw [if_pos ⟨h0, h1⟩] at this
          rw [← this]
          refine ⟨?_, hb⟩
          have hne : (s != 0) = true := by simp; omega
          rw [hne]
          rfl
        · go_wp2
          have := HQ.out
          rw [if_neg (by omega)] at this
          exact ⟨⟨k + 1, by omega, by go_num, this⟩, by simp [intOf]; omega⟩
      · go_wp2
        have := HQ.out
        rw [if_neg (by omega)] at this
        exact ⟨⟨k + 1, by omega, by go_num, this⟩, by simp [intOf]; omega⟩
    · obtain rfl : k = 4 := by omega
      go_wp2
      go_ret2
      have := HP.out
      simp only [padFrom, Nat.sub_self] at this
      rw [← this]
      exact ⟨rfl, hb⟩
end Go.Proofs.YtdmdkkdkmmkalaaGreat
