/- The reference's zeros; its Pad and Unpad. -/
import Derived.Test.YtdmdkkdkmmkalaaGreatPad
namespace Go.Proofs.YtdmdkkdkmmkalaaGreat
open Go.RowKit

/-- So many zero bytes. -/
def zerosB (n : Nat) : ByteArray := strOf (List.replicate n 0)
theorem zerosB_size (n : Nat) : (zerosB n).size = n := by simp [zerosB, strOf_size]

set_option maxRecDepth 100000 in
set_option maxHeartbeats 400000 in
theorem refZeros_any (n : Nat) (w : World) (hn : n ≤ 1099511627776) :
    Calls Tryz.prog 20 #[.int .i64 n] w fun e w' => e = .returned (.string (zerosB n)) ∧ Below w.heap.size w w' := by
  have hmk := run_make_ints (P := Tryz.prog) 78 5 .u8 1 Tryz.underlying78 (by kernel_rfl) (by decide) n hn
  have hb : Blk (w.alloc (.cells (Array.replicate n (.int .u8 0)) 5)) w.heap.size 5 (byteCells (List.replicate n 0)) := by rw [byteCells_zero]; exact Blk.new w _
  have hconv := run_string_of_blk (P := Tryz.prog) 78 9 5 Tryz.underlying78 Tryz.underlying5 Tryz.underlying9 hb n n (by simp)
  clear hb
  go_enter Tryz.func20, Tryz.ntmps20
  go_wp2
  go_ret
  exact ⟨rfl, (Below.refl _ _).alloc (Nat.le_refl _) _⟩

/-- A text filled up; its size known. -/
def padB (b : ByteArray) (sz : Nat) : ByteArray := bePut b.size 2 ++ b ++ zerosB (sz - 2 - b.size)

theorem padSz_ge (n : Nat) (h : padSz n ≠ 0) : n + 2 ≤ padSz n := by
  simp only [padSz, padFrom, sizesL, List.getD_cons_zero, List.getD_cons_succ] at *
  repeat' split at *
  all_goals simp_all
  all_goals omega
theorem padSz_le (n : Int) : padSz n ≤ 2048 := by
  simp only [padSz, padFrom, sizesL, List.getD_cons_zero, List.getD_cons_succ]
  repeat' split
  all_goals omega

set_option maxRecDepth 100000 in
set_option maxHeartbeats 400000 in
theorem refPad_yes (b : ByteArray) (w : World) (hs : b.size ≤ 1000000) (hp : padSz b.size ≠ 0) :
    Calls Tryz.prog 10 #[.string b] w fun e w' => e = .returned (.tuple #[.string (padB b (padSz b.size)), .bool true]) ∧ Below w.heap.size w w' := by
  have hge := padSz_ge b.size hp
  have hle := padSz_le b.size
  obtain ⟨sz, hsz⟩ : ∃ sz, padSz b.size = sz := ⟨_, rfl⟩
  rw [hsz] at hge hle hp ⊢
  have HZ := Lib.hid hsz
  have hne : (sz != 0) = true := by simpa using hp
  have HNE := Lib.hid hne
  clear hsz hp hne
  go_enter Tryz.func10, Tryz.ntmps10
  go_wp2_with fail
  refine (refSize_any _ _).mono ?_
  rintro e w1 ⟨rfl, hb1⟩
  rw [HZ.out, HNE.out]
  go_wp2_with fail
  refine (refPutBig_any b.size 2 _ (U64.of (by omega)) (by omega) (by omega)).mono ?_
  rintro e w2 ⟨rfl, hb2⟩
  have hsz2 : (bePut b.size 2).size = 2 := by simp [bePut, strOf_size, bigL]
  go_wp2_with fail
  rw [show ((sz : Int) - 2 - (b.size : Int)) = ((sz - 2 - b.size : Nat) : Int) by omega]
  refine (refZeros_any (sz - 2 - b.size) _ (by omega)).mono ?_
  rintro e w3 ⟨rfl, hb3⟩
  have hz3 := zerosB_size (sz - 2 - b.size)
  go_wp2
  go_ret2
  exact ⟨rfl, below_then (below_then hb1 hb1.size hb2) (Nat.le_trans hb1.size hb2.size) hb3⟩

set_option maxRecDepth 100000 in
set_option maxHeartbeats 400000 in
theorem refPad_no (b : ByteArray) (w : World) (hp : padSz b.size = 0) :
    Calls Tryz.prog 10 #[.string b] w fun e w' => e = .returned (.tuple #[.string ByteArray.empty, .bool false]) ∧ Below w.heap.size w w' := by
  have HZ := Lib.hid hp
  clear hp
  go_enter Tryz.func10, Tryz.ntmps10
  go_wp2_with fail
  refine (refSize_any _ _).mono ?_
  rintro e w1 ⟨rfl, hb1⟩
  rw [HZ.out]
  go_wp2
  go_ret2
  exact ⟨rfl, hb1⟩

/-- What was padded; none: these bytes are no padded text. -/
noncomputable def unpadB (b : ByteArray) : Option ByteArray :=
  if b.size < 2 then none
  else if b.size - 2 < beGet (b.extract 0 2) then none
  else if padSz (b.extract 2 (2 + beGet (b.extract 0 2))).size = 0 then none
  else if padB (b.extract 2 (2 + beGet (b.extract 0 2))) (padSz (b.extract 2 (2 + beGet (b.extract 0 2))).size) = b then some (b.extract 2 (2 + beGet (b.extract 0 2))) else none

theorem beGet_two_lt (b : ByteArray) : beGet (b.extract 0 2) < 65536 := by
  have h := bigN_lt (b.extract 0 2).data.toList
  have h2 : (b.extract 0 2).data.toList.length ≤ 2 := by
    have : (b.extract 0 2).size ≤ 2 := by rw [ByteArray.size_extract]; omega
    simpa using this
  exact Nat.lt_of_lt_of_le h (Nat.pow_le_pow_right (n := 256) (by omega) h2)

set_option maxRecDepth 100000 in
set_option maxHeartbeats 400000 in
theorem refUnpad_any (b : ByteArray) (w : World) (hs : b.size ≤ 1000000) :
    Calls Tryz.prog 12 #[.string b] w fun e w' => e = .returned (.tuple #[.string ((unpadB b).getD ByteArray.empty), .bool (unpadB b).isSome]) ∧ Below w.heap.size w w' := by
  by_cases h1 : b.size < 2
  · have hu : unpadB b = none := by rw [unpadB, if_pos h1]
    rw [hu]
    go_enter Tryz.func12, Tryz.ntmps12
    go_wp2
    go_ret2
    exact ⟨rfl, Below.refl _ _⟩
  have hx2 : (b.extract 0 2).size = 2 := by rw [ByteArray.size_extract]; omega
  have hnl := beGet_two_lt b
  obtain ⟨n, hn⟩ : ∃ n, beGet (b.extract 0 2) = n := ⟨_, rfl⟩
  rw [hn] at hnl
  have HN := Lib.hid hn
  clear hn
  by_cases h2 : b.size - 2 < n
  · have hu : unpadB b = none := by rw [unpadB, if_neg h1, HN.out, if_pos h2]
    rw [hu]
    clear hu
    go_enter Tryz.func12, Tryz.ntmps12
    go_wp2_with fail
    refine (refBig_any _ _ (by omega)).mono ?_
    rintro e w1 ⟨rfl, hb1⟩
    rw [HN.out]
    go_wp2
    go_ret2
    exact ⟨rfl, hb1⟩
  obtain ⟨o, ho⟩ : ∃ o, b.extract 2 (2 + n) = o := ⟨_, rfl⟩
  have hos : o.size = n := by rw [← ho, ByteArray.size_extract]; omega
  have HO := Lib.hid ho
  clear ho
  by_cases h3 : padSz o.size = 0
  · have hu : unpadB b = none := by rw [unpadB, if_neg h1, HN.out, if_neg h2, HO.out, if_pos h3]
    rw [hu]
    have HS := Lib.hid hos
    have H3 := Lib.hid h3
    clear hu hos h3
    go_enter Tryz.func12, Tryz.ntmps12
    go_wp2_with fail
    refine (refBig_any _ _ (by omega)).mono ?_
    rintro e w1 ⟨rfl, hb1⟩
    rw [HN.out]
    go_wp2_with fail
    rw [HO.out]
    refine (refPad_no _ _ H3.out).mono ?_
    rintro e w2 ⟨rfl, hb2⟩
    go_wp2
    go_ret2
    exact ⟨rfl, below_then hb1 hb1.size hb2⟩
  obtain ⟨P, hP⟩ : ∃ P, padB o (padSz o.size) = P := ⟨_, rfl⟩
  by_cases h4 : P = b
  · have hu : unpadB b = some o := by rw [unpadB, if_neg h1, HN.out, if_neg h2, HO.out, if_neg h3, hP, if_pos h4]
    rw [hu]
    have HS := Lib.hid hos
    have H3 := Lib.hid h3
    have HP := Lib.hid hP
    have H4 := Lib.hid h4
    clear hu hos h3 hP h4
    go_enter Tryz.func12, Tryz.ntmps12
    go_wp2_with fail
    refine (refBig_any _ _ (by omega)).mono ?_
    rintro e w1 ⟨rfl, hb1⟩
    rw [HN.out]
    go_wp2_with fail
    rw [HO.out]
    refine (refPad_yes _ _ (by rw [HS.out]; omega) H3.out).mono ?_
    rintro e w2 ⟨rfl, hb2⟩
    rw [HP.out, H4.out]
    go_wp2_with fail
    go_ret2
    exact ⟨by rw [← HO.out]; rfl, below_then hb1 hb1.size hb2⟩
  · have hu : unpadB b = none := by rw [unpadB, if_neg h1, HN.out, if_neg h2, HO.out, if_neg h3, hP, if_neg h4]
    rw [hu]
    have h5 := strNe h4
    have HS := Lib.hid hos
    have H3 := Lib.hid h3
    have HP := Lib.hid hP
    clear hu hos h3 hP
    go_enter Tryz.func12, Tryz.ntmps12
    go_wp2_with fail
    refine (refBig_any _ _ (by omega)).mono ?_
    rintro e w1 ⟨rfl, hb1⟩
    rw [HN.out]
    go_wp2_with fail
    rw [HO.out]
    refine (refPad_yes _ _ (by rw [HS.out]; omega) H3.out).mono ?_
    rintro e w2 ⟨rfl, hb2⟩
    rw [HP.out]
    go_wp2_with fail
    go_ret2
    exact ⟨rfl, below_then hb1 hb1.size hb2⟩
end Go.Proofs.YtdmdkkdkmmkalaaGreat
