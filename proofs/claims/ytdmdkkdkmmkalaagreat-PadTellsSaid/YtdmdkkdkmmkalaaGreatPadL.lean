/- The law PadTells: alive. -/
import Derived.Test.YtdmdkkdkmmkalaaGreatPadB
import Derived.Test.YtdmdkkdkmmkalaaGreatZer
import Derived.Test.YtdmdkkdkmmkalaaGreatBkA
namespace Go.Proofs.YtdmdkkdkmmkalaaGreat
open Go.RowKit

def abcB : ByteArray := ⟨#[97, 98, 99]⟩
theorem abc_pad_size : (padB abcB 32).size = 32 := by decide
theorem abc_pad_head : (padB abcB 32).extract 0 5 = ⟨#[0, 3, 97, 98, 99]⟩ := by decide
theorem abc_unpad : unpadB (padB abcB 32) = some abcB := by decide

set_option maxRecDepth 100000 in
set_option maxHeartbeats 1000000 in
theorem alive_any (w : World) : Calls Tryz.prog 4 #[] w fun e w' => e = .returned (.bool true) ∧ Below w.heap.size w w' := by
  have hp : ∀ W : World, Calls Tryz.prog 9 #[.string { data := #[97, 98, 99] }] W fun e w' => e = .returned (.tuple #[.string (padB abcB 32), .bool true]) ∧ Below W.heap.size W w' := fun W => pad_yes abcB W (by decide) (by decide)
  have hu : ∀ W : World, Calls Tryz.prog 11 #[.string (padB abcB 32)] W fun e w' => e = .returned (.tuple #[.string { data := #[97, 98, 99] }, .bool true]) ∧ Below W.heap.size W w' := fun W => by
    have := unpad_any (padB abcB 32) W (by decide)
    rw [abc_unpad] at this
    exact this
  have h1 := abc_pad_size
  have h2 := abc_pad_head
  obtain ⟨p, hp0⟩ : ∃ p, padB abcB 32 = p := ⟨_, rfl⟩
  rw [hp0] at hp hu h1 h2
  clear hp0
  have HP := Lib.hid hp
  have HU := Lib.hid hu
  clear hp hu
  go_enter Tryz.func4, Tryz.ntmps4
  go_wp2_with fail
  refine (HP.out _).mono ?_
  rintro e w1 ⟨rfl, hb1⟩
  go_wp2_with fail
  refine (HU.out _).mono ?_
  rintro e w2 ⟨rfl, hb2⟩
  go_wp2_with fail
  refine (sizes_any _).mono ?_
  rintro e w3 ⟨v, rfl, ho, hb3⟩
  obtain ⟨A, c, rfl⟩ := own_form ho
  go_wp2
  go_ret
  exact ⟨rfl, (hb1.trans (hb2.mono hb1.size)).trans (hb3.mono (Nat.le_trans hb1.size hb2.size))⟩

def sizesI : List Int := [32, 128, 512, 2048]
theorem padBoth (b : ByteArray) (hs : b.size ≤ 1000000) : ∃ p ok, (∀ W : World, Calls Tryz.prog 9 #[.string b] W fun e w' => e = .returned (.tuple #[.string p, .bool ok]) ∧ Below W.heap.size W w') ∧
    (∀ W : World, Calls Tryz.prog 10 #[.string b] W fun e w' => e = .returned (.tuple #[.string p, .bool ok]) ∧ Below W.heap.size W w') := by
  by_cases hp : padSz b.size = 0
  · exact ⟨_, _, fun W => pad_no b W hp, fun W => refPad_no b W hp⟩
  · exact ⟨_, _, fun W => pad_yes b W hs hp, fun W => refPad_yes b W hs hp⟩
theorem unpadBoth (b : ByteArray) (hs : b.size ≤ 1000000) : ∃ p ok, (∀ W : World, Calls Tryz.prog 11 #[.string b] W fun e w' => e = .returned (.tuple #[.string p, .bool ok]) ∧ Below W.heap.size W w') ∧
    (∀ W : World, Calls Tryz.prog 12 #[.string b] W fun e w' => e = .returned (.tuple #[.string p, .bool ok]) ∧ Below W.heap.size W w') :=
  ⟨_, _, fun W => unpad_any b W hs, fun W => refUnpad_any b W hs⟩
theorem sizeBoth (n : Int) : ∃ (s : Int) (ok : Bool), (∀ W : World, Calls Tryz.prog 7 #[.int .i64 n] W fun e w' => e = .returned (.tuple #[.int .i64 s, .bool ok]) ∧ Below W.heap.size W w') ∧
    (∀ W : World, Calls Tryz.prog 8 #[.int .i64 n] W fun e w' => e = .returned (.tuple #[.int .i64 s, .bool ok]) ∧ Below W.heap.size W w') :=
  ⟨_, _, fun W => size_any n W, fun W => refSize_any n W⟩
theorem sizesI_any (W : World) : Calls Tryz.prog 6 #[] W fun e w' => ∃ A c, e = .returned (.slice A 4 c) ∧ w'.ownsRow W.heap.size 3 1 (.slice A 4 c) sizesI.length (sizesI.map encI) ∧ Below W.heap.size W w' := by
  refine (sizes_any W).mono ?_
  rintro e w' ⟨v, rfl, ho, hb⟩
  obtain ⟨A, c, rfl⟩ := own_form ho
  exact ⟨A, c, rfl, ho, hb⟩
theorem book_new (w : World) : IntsIn (w.alloc (.cells (bookI nilS nilS) 32)) w.heap.size nilS nilS [] [] [] :=
  ⟨Blk.new w _, own_nil _ _ _ _, own_nil _ _ _ _, Kept.nil _ _ _ _, Kept.nil _ _ _ _, by simp [Value.ownBlock], by simp, by simp⟩
theorem bookZero (w : World) : (zeroValue 32).run Tryz.prog w = .ok (.agg (bookI nilS nilS)) w := by kernel_rfl

set_option maxRecDepth 100000 in
set_option maxHeartbeats 2000000 in
theorem padTells_walk (b c : ByteArray) (n : Int) (w : World) : Calls Tryz.prog 3 #[.string b, .string c, .int .i64 n] w fun e w' => e = .returned (.bool true) ∧ Below w.heap.size w w' := by
  by_cases hb : b.size ≤ 2100
  · by_cases hc : c.size ≤ 2100
    · obtain ⟨p, ok, hP, hPr⟩ := padBoth b (by omega)
      obtain ⟨u, yes, hU, hUr⟩ := unpadBoth c (by omega)
      obtain ⟨s, is, hS, hSr⟩ := sizeBoth n
      have HP := Lib.hid hP
      have HPr := Lib.hid hPr
      have HU := Lib.hid hU
      have HUr := Lib.hid hUr
      have HS := Lib.hid hS
      have HSr := Lib.hid hSr
      have hz := bookZero
      clear hP hPr hU hUr hS hSr
      go_enter Tryz.func3, Tryz.ntmps3
      go_wp2_with fail
      refine (alive_any _).mono ?_
      rintro e w1 ⟨rfl, hb1⟩
      go_wp2_with fail
      have h0 := book_new w1
      have hba : Below w1.heap.size w1 (w1.alloc (.cells (bookI nilS nilS) 32)) := (Below.refl _ _).alloc (Nat.le_refl _) _
      obtain ⟨g, hg⟩ : ∃ g, w1.heap.size = g := ⟨_, rfl⟩
      obtain ⟨wa, hwa⟩ : ∃ wa, wa = w1.alloc (.cells (bookI nilS nilS) 32) := ⟨_, rfl⟩
      have hsa : wa.heap.size = g + 1 := by rw [hwa, ← hg]; simp
      rw [← hwa, hg] at h0 hba ⊢
      have H0 := Lib.hid h0
      have HBA := Lib.hid hba
      have hwg : w.heap.size ≤ g := by have := hb1.size; omega
      have HB1 := Lib.hid hb1
      clear h0 hba hwa hg hz hb1
      refine (sizesI_any _).mono ?_
      rintro e w2 ⟨A2, c2, rfl, ho2, hb2⟩
      go_wp2_with fail
      refine (ints_any (H0.out.below hb2) (by simp) ho2 (by omega) (by simp) (by decide)).mono ?_
      rintro e w3 ⟨rfl, V1, V2, u1, h3, hb3⟩
      have H3 := Lib.hid h3
      clear h3
      go_wp2_with fail
      refine (sizesI_any _).mono ?_
      rintro e w4 ⟨A4, c4, rfl, ho4, hb4⟩
      go_wp2_with fail
      refine (ints_any (H3.out.below hb4) (by simp) ho4 (by have := Blk.lt H3.out.book; omega) (fun u hu z hz => (H3.out.keptL.lt u hu z hz).2) (by decide)).mono ?_
      rintro e w5 ⟨rfl, V3, V4, u2, h5, hb5⟩
      have H5 := Lib.hid h5
      clear h5
      go_wp2_with fail
      refine (HS.out _).mono ?_
      rintro e w6 ⟨rfl, hb6⟩
      go_wp2_with fail
      refine (HSr.out _).mono ?_
      rintro e w7 ⟨rfl, hb7⟩
      go_wp2_with fail
      refine (HP.out _).mono ?_
      rintro e w8 ⟨rfl, hb8⟩
      go_wp2_with fail
      refine (HPr.out _).mono ?_
      rintro e w9 ⟨rfl, hb9⟩
      go_wp2_with fail
      refine (HU.out _).mono ?_
      rintro e w10 ⟨rfl, hb10⟩
      go_wp2_with fail
      refine (HUr.out _).mono ?_
      rintro e w11 ⟨rfl, hb11⟩
      go_wp2_with fail
      refine (sizesI_any _).mono ?_
      rintro e w12 ⟨A12, c12, rfl, ho12, hb12⟩
      have H12 := Lib.hid (((((((H5.out.below hb6).below hb7).below hb8).below hb9).below hb10).below hb11).below hb12)
      have hs6 := hb6.size
      have hs7 := hb7.size
      have hs8 := hb8.size
      have hs9 := hb9.size
      have hs10 := hb10.size
      have hs11 := hb11.size
      have hgl5 := Blk.lt H5.out.book
      have hgl3 := Blk.lt H3.out.book
      have hs1 := HB1.out.size
      have hbt : Below w.heap.size w w12 :=
        ((((((((((HB1.out.trans (HBA.out.mono hwg)).trans (hb2.mono (by omega))).trans (hb3.mono hwg)).trans (hb4.mono (by omega))).trans (hb5.mono hwg)).trans (hb6.mono (by omega))).trans (hb7.mono (by omega))).trans (hb8.mono (by omega))).trans (hb9.mono (by omega))).trans (hb10.mono (by omega))).trans (hb11.mono (by omega)) |>.trans (hb12.mono (by omega))
      have HBT := Lib.hid hbt
      clear hb2 hb3 hb4 hb5 hb6 hb7 hb8 hb9 hb10 hb11 hb12 hbt hs1
      go_wp2_with fail
      have hal : Below w12.heap.size w12 (w12.alloc (.cells #[.int .i64 32, .int .i64 128, .int .i64 512, .int .i64 2048] 3)) := (Below.refl _ _).alloc (Nat.le_refl _) _
      refine (sameInts_any _ _ sizesI sizesI _ (by decide) ⟨_, own_below ho12 hal⟩ ⟨0, World.ownsRow_lit w12 #[.int .i64 32, .int .i64 128, .int .i64 512, .int .i64 2048] 4 (Nat.zero_le _) (by decide) rfl⟩).mono ?_
      rw [decide_eq_true (rfl : sizesI = sizesI)]
      rintro e w13 ⟨rfl, m, hw13⟩
      have hbd : Below w12.heap.size w12 w13 := by rw [hw13]; exact below_drewN hal m
      have H13 := Lib.hid (H12.out.below hbd)
      have hgl12 := Blk.lt H12.out.book
      clear hw13 hal
      go_wp2_with fail
      refine (apartInts_any H13.out).mono ?_
      rintro e w14 ⟨rfl, hb14⟩
      go_wp2
      go_ret
      exact ⟨rfl, (HBT.out.trans (hbd.mono (by omega))).trans (hb14.mono hwg)⟩
    · go_enter Tryz.func3, Tryz.ntmps3
      go_wp2_with fail
      refine (alive_any _).mono ?_
      rintro e w1 ⟨rfl, hb1⟩
      go_wp2
      go_ret
      exact ⟨rfl, hb1⟩
  · go_enter Tryz.func3, Tryz.ntmps3
    go_wp2_with fail
    refine (alive_any _).mono ?_
    rintro e w1 ⟨rfl, hb1⟩
    go_wp2
    go_ret
    exact ⟨rfl, hb1⟩
end Go.Proofs.YtdmdkkdkmmkalaaGreat
