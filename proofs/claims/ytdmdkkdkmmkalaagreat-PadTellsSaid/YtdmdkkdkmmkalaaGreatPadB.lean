/- Package pad: Pad, Unpad. -/
import Derived.Test.YtdmdkkdkmmkalaaGreatZer
import Derived.Test.YtdmdkkdkmmkalaaGreatShelf
namespace Go.Proofs.YtdmdkkdkmmkalaaGreat
open Go.RowKit

theorem repeatL_zero (c : Nat) : (⟨(Lib.repeatL [0] c).toArray⟩ : ByteArray) = zerosB c := by
  have h : ∀ c, Lib.repeatL [0] c = List.replicate c 0 := by
    intro c
    induction c with
    | zero => rfl
    | succ c ih => rw [Lib.repeatL, ih]; rfl
  rw [h, zerosB, strOf]
  congr 2
  simp
theorem repZero_any (c : Nat) (w : World) (hc : c ≤ 1099511627776) :
    Calls Tryz.prog 18 #[.string ⟨#[0]⟩, .int .i64 c] w fun e w' => e = .returned (.string (zerosB c)) ∧ Below w.heap.size w w' := by
  refine (Tryz.strings_Repeat ⟨#[0]⟩ c w (by omega) (by show 1 * c ≤ _; omega)).mono ?_
  rintro e w' ⟨rfl, hb⟩
  exact ⟨by rw [← repeatL_zero], hb⟩

set_option maxRecDepth 100000 in
set_option maxHeartbeats 400000 in
theorem pad_yes (b : ByteArray) (w : World) (hs : b.size ≤ 1000000) (hp : padSz b.size ≠ 0) :
    Calls Tryz.prog 9 #[.string b] w fun e w' => e = .returned (.tuple #[.string (padB b (padSz b.size)), .bool true]) ∧ Below w.heap.size w w' := by
  have hge := padSz_ge b.size hp
  have hle := padSz_le b.size
  obtain ⟨sz, hsz⟩ : ∃ sz, padSz b.size = sz := ⟨_, rfl⟩
  rw [hsz] at hge hle hp ⊢
  have HZ := Lib.hid hsz
  have hne : (sz != 0) = true := by simpa using hp
  have HNE := Lib.hid hne
  clear hsz hp hne
  go_enter Tryz.func9, Tryz.ntmps9
  go_wp2_with fail
  refine (size_any _ _).mono ?_
  rintro e w1 ⟨rfl, hb1⟩
  rw [HZ.out, HNE.out]
  go_wp2_with fail
  refine (putBig_any b.size 2 _ (U64.of (by omega)) (by omega) (by omega)).mono ?_
  rintro e w2 ⟨rfl, hb2⟩
  have hsz2 : (bePut b.size 2).size = 2 := by simp [bePut, strOf_size, bigL]
  go_wp2_with fail
  rw [show ((sz : Int) - 2 - (b.size : Int)) = ((sz - 2 - b.size : Nat) : Int) by omega]
  refine (repZero_any (sz - 2 - b.size) _ (by omega)).mono ?_
  rintro e w3 ⟨rfl, hb3⟩
  have hz3 := zerosB_size (sz - 2 - b.size)
  go_wp2
  go_ret2
  exact ⟨rfl, below_then (below_then hb1 hb1.size hb2) (Nat.le_trans hb1.size hb2.size) hb3⟩

set_option maxRecDepth 100000 in
set_option maxHeartbeats 400000 in
theorem pad_no (b : ByteArray) (w : World) (hp : padSz b.size = 0) :
    Calls Tryz.prog 9 #[.string b] w fun e w' => e = .returned (.tuple #[.string ByteArray.empty, .bool false]) ∧ Below w.heap.size w w' := by
  have HZ := Lib.hid hp
  clear hp
  go_enter Tryz.func9, Tryz.ntmps9
  go_wp2_with fail
  refine (size_any _ _).mono ?_
  rintro e w1 ⟨rfl, hb1⟩
  rw [HZ.out]
  go_wp2
  go_ret2
  exact ⟨rfl, hb1⟩

set_option maxRecDepth 100000 in
set_option maxHeartbeats 400000 in
theorem unpad_any (b : ByteArray) (w : World) (hs : b.size ≤ 1000000) :
    Calls Tryz.prog 11 #[.string b] w fun e w' => e = .returned (.tuple #[.string ((unpadB b).getD ByteArray.empty), .bool (unpadB b).isSome]) ∧ Below w.heap.size w w' := by
  by_cases h1 : b.size < 2
  · have hu : unpadB b = none := by rw [unpadB, if_pos h1]
    rw [hu]
    go_enter Tryz.func11, Tryz.ntmps11
    go_wp2
    go_ret2
    exact ⟨rfl, Below.refl _ _⟩
  have hx2 : (b.extract 0 2).size = 2 := by rw [ByteArray.size_extract]; omega
  have hnl := beGet_two_lt b
  obtain ⟨n, hn⟩ : ∃ n, beGet (b.extract 0 2) = n := ⟨_, rfl⟩
  rw [hn] at hnl
  have HN := Lib.hid hn
  clear hn
  by_cases h2 : b.size - 2 < n
  · have hu : unpadB b = none := by rw [unpadB, if_neg h1, HN.out, if_pos h2]
    rw [hu]
    clear hu
    go_enter Tryz.func11, Tryz.ntmps11
    go_wp2_with fail
    refine (big_any _ _ (by omega)).mono ?_
    rintro e w1 ⟨rfl, hb1⟩
    rw [HN.out]
    go_wp2
    go_ret2
    exact ⟨rfl, hb1⟩
  obtain ⟨o, ho⟩ : ∃ o, b.extract 2 (2 + n) = o := ⟨_, rfl⟩
  have hos : o.size = n := by rw [← ho, ByteArray.size_extract]; omega
  have HO := Lib.hid ho
  clear ho
  by_cases h3 : padSz o.size = 0
  · have hu : unpadB b = none := by rw [unpadB, if_neg h1, HN.out, if_neg h2, HO.out, if_pos h3]
    rw [hu]
    have HS := Lib.hid hos
    have H3 := Lib.hid h3
    clear hu hos h3
    go_enter Tryz.func11, Tryz.ntmps11
    go_wp2_with fail
    refine (big_any _ _ (by omega)).mono ?_
    rintro e w1 ⟨rfl, hb1⟩
    rw [HN.out]
    go_wp2_with fail
    rw [HO.out]
    refine (pad_no _ _ H3.out).mono ?_
    rintro e w2 ⟨rfl, hb2⟩
    go_wp2
    go_ret2
    exact ⟨rfl, below_then hb1 hb1.size hb2⟩
  obtain ⟨P, hP⟩ : ∃ P, padB o (padSz o.size) = P := ⟨_, rfl⟩
  by_cases h4 : P = b
  · have hu : unpadB b = some o := by rw [unpadB, if_neg h1, HN.out, if_neg h2, HO.out, if_neg h3, hP, if_pos h4]
    rw [hu]
    have HS := Lib.hid hos
    have H3 := Lib.hid h3
    have HP := Lib.hid hP
    have H4 := Lib.hid h4
    clear hu hos h3 hP h4
    go_enter Tryz.func11, Tryz.ntmps11
    go_wp2_with fail
    refine (big_any _ _ (by omega)).mono ?_
    rintro e w1 ⟨rfl, hb1⟩
    rw [HN.out]
    go_wp2_with fail
    rw [HO.out]
    refine (pad_yes _ _ (by rw [HS.out]; omega) H3.out).mono ?_
    rintro e w2 ⟨rfl, hb2⟩
    rw [HP.out, H4.out]
    go_wp2_with fail
    go_ret2
    exact ⟨by rw [← HO.out]; rfl, below_then hb1 hb1.size hb2⟩
  · have hu : unpadB b = none := by rw [unpadB, if_neg h1, HN.out, if_neg h2, HO.out, if_neg h3, hP, if_neg h4]
    rw [hu]
    have h5 := strNe h4
    have HS := Lib.hid hos
    have H3 := Lib.hid h3
    have HP := Lib.hid hP
    clear hu hos h3 hP
    go_enter Tryz.func11, Tryz.ntmps11
    go_wp2_with fail
    refine (big_any _ _ (by omega)).mono ?_
    rintro e w1 ⟨rfl, hb1⟩
    rw [HN.out]
    go_wp2_with fail
    rw [HO.out]
    refine (pad_yes _ _ (by rw [HS.out]; omega) H3.out).mono ?_
    rintro e w2 ⟨rfl, hb2⟩
    rw [HP.out]
    go_wp2_with fail
    go_ret2
    exact ⟨rfl, below_then hb1 hb1.size hb2⟩
end Go.Proofs.YtdmdkkdkmmkalaaGreat
