/- Package octet: PutBig. -/
import Derived.Test.YtdmdkkdkmmkalaaGreatBase
namespace Go.Proofs.YtdmdkkdkmmkalaaGreat
open Go.RowKit

/-- The bytes of a number, the highest first. -/
def bigL (v n : Nat) : List Nat := (List.range n).map fun i => v / 2 ^ (8 * (n - 1 - i)) % 256
def bePut (v n : Nat) : ByteArray := strOf (bigL v n)

/-- While the bytes are filled in from behind: the last k are there. -/
def bigPart (v n k : Nat) : List Nat := (List.range n).map fun i => if n - k ≤ i then v / 2 ^ (8 * (n - 1 - i)) % 256 else 0
theorem bigPart_zero (v n : Nat) : bigPart v n 0 = List.replicate n 0 := by
  apply List.ext_getElem <;> simp [bigPart]
  intro i h; omega
theorem bigPart_full (v n : Nat) : bigPart v n n = bigL v n := by
  apply List.ext_getElem <;> simp [bigPart, bigL]
theorem bigPart_length (v n k : Nat) : (bigPart v n k).length = n := by simp [bigPart]
theorem bigPart_succ (v n k : Nat) (h : k < n) : (bigPart v n k).set (n - 1 - k) (v / 2 ^ (8 * k) % 256) = bigPart v n (k + 1) := by
  apply List.ext_getElem
  · simp [bigPart]
  · intro i h1 h2
    simp only [bigPart, List.getElem_set, List.getElem_map, List.getElem_range]
    by_cases e : n - 1 - k = i
    · subst e
      rw [if_pos rfl, if_pos (by omega)]
      congr 3; omega
    · rw [if_neg e]
      by_cases e2 : n - k ≤ i
      · rw [if_pos e2, if_pos (by omega)]
      · rw [if_neg e2, if_neg (by omega)]

set_option maxRecDepth 100000 in
set_option maxHeartbeats 400000 in
theorem putBig_any (v n : Nat) (w : World) (_hv : U64 v) (h1 : 1 ≤ n) (h8 : n ≤ 8) :
    Calls Tryz.prog 17 #[.int .u64 v, .int .i64 n] w fun e w' => e = .returned (.string (bePut v n)) ∧ Below w.heap.size w w' := by
  have hmk := run_make_ints (P := Tryz.prog) 78 5 .u8 1 Tryz.underlying78 (by kernel_rfl) (by decide) n (by omega)
  have h10 : ¬ n < 1 := by omega
  have h11 : ¬ 8 < n := by omega
  go_enter Tryz.func17, Tryz.ntmps17
  go_wp2
  go_loopw [17] (fun i wr => ∃ k : Nat, k ≤ n ∧ i = .int .i64 k ∧ Blk wr w.heap.size 5 (byteCells (bigPart v n k)) ∧ Below w.heap.size w wr) (fun i _ => n - (intOf i).toNat)
  case atStart => exact ⟨0, Nat.zero_le _, rfl, by rw [bigPart_zero, byteCells_zero]; exact Blk.new w _, (Below.refl _ _).alloc (Nat.le_refl _) _⟩
  case round =>
    obtain ⟨k, hk, rfl, hblk, hb⟩ := hrel
    by_cases hlt : k < n
    · have hc := Blk.cell hblk (n - 1 - k)
      rw [byteCells_get _ _ (by rw [bigPart_length]; omega)] at hc
      have hf := Blk.free hblk (n - 1 - k)
      go_wp2
      have hs := Blk.set hblk (n - 1 - k) (.int .u8 ((v / 2 ^ (8 * k) % 256 : Nat) : Int))
      rw [byteCells_set, bigPart_succ _ _ _ hlt] at hs
      have e1 : ((v / 2 ^ (8 * k) % 256 : Nat) : Int) = (v : Int) / 2 ^ (8 * k) % 256 := by simp
      rw [e1] at hs
      exact ⟨⟨k + 1, by omega, by go_num, hs, hb.setCell (Nat.le_refl _) _⟩, by simp [intOf]; omega⟩
    · obtain rfl : k = n := by omega
      rw [bigPart_full] at hblk
      have hconv := run_string_of_blk (P := Tryz.prog) 78 9 5 Tryz.underlying78 Tryz.underlying5 Tryz.underlying9 hblk k k (by simp [bigL])
      go_wp2
      go_ret
      exact ⟨rfl, hb⟩
set_option maxRecDepth 100000 in
set_option maxHeartbeats 400000 in
theorem refPutBig_any (v n : Nat) (w : World) (_hv : U64 v) (h1 : 1 ≤ n) (h8 : n ≤ 8) :
    Calls Tryz.prog 19 #[.int .u64 v, .int .i64 n] w fun e w' => e = .returned (.string (bePut v n)) ∧ Below w.heap.size w w' := by
  have hmk := run_make_ints (P := Tryz.prog) 78 5 .u8 1 Tryz.underlying78 (by kernel_rfl) (by decide) n (by omega)
  have h10 : ¬ n < 1 := by omega
  have h11 : ¬ 8 < n := by omega
  go_enter Tryz.func19, Tryz.ntmps19
  go_wp2
  go_loopw [0, 6] (fun x i wr => ∃ k : Nat, k ≤ n ∧ i = .int .i64 ((n : Int) - 1 - k) ∧ x = .int .u64 ((v / 2 ^ (8 * k) : Nat) : Int) ∧ Blk wr w.heap.size 5 (byteCells (bigPart v n k)) ∧ Below w.heap.size w wr) (fun _ i _ => ((intOf i) + 1).toNat)
  case atStart => exact ⟨0, Nat.zero_le _, by go_num, by simp, by rw [bigPart_zero, byteCells_zero]; exact Blk.new w _, (Below.refl _ _).alloc (Nat.le_refl _) _⟩
  case round =>
    obtain ⟨k, hk, rfl, rfl, hblk, hb⟩ := hrel
    obtain ⟨x, hx⟩ : ∃ x : Nat, v / 2 ^ (8 * k) = x := ⟨_, rfl⟩
    rw [hx]
    have hX := Lib.hid hx
    clear hx
    by_cases hlt : k < n
    · have hc := Blk.cell hblk (n - 1 - k)
      rw [byteCells_get _ _ (by rw [bigPart_length]; omega)] at hc
      have hf := Blk.free hblk (n - 1 - k)
      have ht : ((n : Int) - 1 - k).toNat = n - 1 - k := by omega
      go_wp2
      have hU : U64 x := hX.out ▸ U64.div _hv _
      have hs := Blk.set hblk (n - 1 - k) (.int .u8 ((v / 2 ^ (8 * k) % 256 : Nat) : Int))
      rw [byteCells_set, bigPart_succ _ _ _ hlt, hX.out] at hs
      have e1 : v / 2 ^ (8 * (k + 1)) = x / 256 := by rw [← hX.out, Nat.div_div_eq_div_mul, Nat.mul_add, Nat.pow_add]
      rw [u64_div256 hU, u64_and255 hU, show ((x % 256 : Nat) : Int) % 256 = ((x % 256 : Nat) : Int) from by omega]
      exact ⟨⟨k + 1, by omega, by go_num, by rw [e1], hs, hb.setCell (Nat.le_refl _) _⟩, by simp [intOf]; omega⟩
    · obtain rfl : k = n := by omega
      rw [bigPart_full] at hblk
      have hconv := run_string_of_blk (P := Tryz.prog) 78 9 5 Tryz.underlying78 Tryz.underlying5 Tryz.underlying9 hblk k k (by simp [bigL])
      go_wp2
      go_ret
      exact ⟨rfl, hb⟩
/-- The number of bytes, the highest first. -/
def bigN (l : List UInt8) : Nat := l.foldl (fun v c => v * 256 + c.toNat) 0
theorem bigN_snoc (l : List UInt8) (c : UInt8) : bigN (l ++ [c]) = bigN l * 256 + c.toNat := by simp [bigN]
theorem foldl_lt (l : List UInt8) : ∀ (v n : Nat), v < 256 ^ n → l.foldl (fun v c => v * 256 + c.toNat) v < 256 ^ (n + l.length) := by
  induction l with
  | nil => intro v n h; simpa using h
  | cons c l ih =>
    intro v n h
    have := ih (v * 256 + c.toNat) (n + 1) (by rw [Nat.pow_succ]; have := c.toNat_lt; omega)
    simpa [Nat.add_assoc, Nat.add_comm 1] using this
theorem bigN_lt (l : List UInt8) : bigN l < 256 ^ l.length := by have := foldl_lt l 0 0 (by simp); rw [Nat.zero_add] at this; exact this
def beGet (s : ByteArray) : Nat := bigN s.data.toList
set_option maxRecDepth 100000 in
set_option maxHeartbeats 400000 in
theorem big_any (s : ByteArray) (w : World) (hs : s.size ≤ 8) :
    Calls Tryz.prog 21 #[.string s] w fun e w' => e = .returned (.int .u64 (beGet s)) ∧ Below w.heap.size w w' := by
  have hmax : max ((s.size : Int) - 8) 0 = 0 := by omega
  have hext := extract_all s
  have hcv := fun w => Lib.run_convert_string_bytes (P := Tryz.prog) w 9 78 5 s Tryz.underlying9 Tryz.underlying78 Tryz.underlying5
  go_enter Tryz.func21, Tryz.ntmps21
  go_wp2
  go_loop [3, 14] (fun x i => ∃ k : Nat, k ≤ s.size ∧ i = .int .i64 k ∧ x = .int .u64 (bigN (s.data.toList.take k) : Nat)) (fun _ i => s.size - (intOf i).toNat)
  case atStart => exact ⟨0, Nat.zero_le _, rfl, by simp [bigN]⟩
  case round =>
    obtain ⟨k, hk, rfl, rfl⟩ := hrel
    by_cases hlt : k < s.size
    · have hc := Lib.bytesWorld_cell w 5 s k hlt
      obtain ⟨x, hx⟩ : ∃ x : Nat, bigN (s.data.toList.take k) = x := ⟨_, rfl⟩
      obtain ⟨c, hcc⟩ : ∃ c : Nat, (s.data.toList.getD k 0).toNat = c := ⟨_, rfl⟩
      rw [hcc] at hc
      rw [hx]
      have HX := Lib.hid hx
      have HC := Lib.hid hcc
      clear hx hcc hext hmax hcv
      go_wp2
      have hxl : x < 2 ^ 56 := by
        have h1 := bigN_lt (s.data.toList.take k)
        rw [HX.out] at h1
        refine Nat.lt_of_lt_of_le h1 ?_
        have h2 : (s.data.toList.take k).length ≤ 7 := Nat.le_trans (List.length_take_le _ _) (by omega)
        exact Nat.pow_le_pow_right (n := 256) (by omega) h2
      have hcl : c < 256 := HC.out ▸ UInt8.toNat_lt _
      rw [u64_byte hxl hcl]
      exact ⟨⟨k + 1, by omega, by go_num, by rw [take_snoc s k hlt, bigN_snoc, HX.out, HC.out]⟩, by simp [intOf]; omega⟩
    · obtain rfl : k = s.size := by omega
      go_wp2
      go_ret
      exact ⟨ret_int (by rw [beGet, take_all]), bytes_below (Below.refl _ _) (Nat.le_refl _) _ _⟩

set_option maxRecDepth 100000 in
set_option maxHeartbeats 400000 in
theorem refBig_any (s : ByteArray) (w : World) (hs : s.size ≤ 8) :
    Calls Tryz.prog 22 #[.string s] w fun e w' => e = .returned (.int .u64 (beGet s)) ∧ Below w.heap.size w w' := by
  have hmax : max ((s.size : Int) - 8) 0 = 0 := by omega
  go_enter Tryz.func22, Tryz.ntmps22
  go_wp2
  go_loop [3, 4] (fun x i => ∃ k : Nat, k ≤ s.size ∧ i = .int .i64 k ∧ x = .int .u64 (bigN (s.data.toList.take k) : Nat)) (fun _ i => s.size - (intOf i).toNat)
  case atStart => exact ⟨0, Nat.zero_le _, rfl, by simp [bigN]⟩
  case round =>
    obtain ⟨k, hk, rfl, rfl⟩ := hrel
    by_cases hlt : k < s.size
    · obtain ⟨x, hx⟩ : ∃ x : Nat, bigN (s.data.toList.take k) = x := ⟨_, rfl⟩
      rw [hx]
      have HX := Lib.hid hx
      clear hx hmax
      go_wp2
      have hxl : x < 2 ^ 56 := by
        have h1 := bigN_lt (s.data.toList.take k)
        rw [HX.out] at h1
        refine Nat.lt_of_lt_of_le h1 ?_
        have h2 : (s.data.toList.take k).length ≤ 7 := Nat.le_trans (List.length_take_le _ _) (by omega)
        exact Nat.pow_le_pow_right (n := 256) (by omega) h2
      rw [u64_byte_plain hxl (UInt8.toNat_lt _)]
      exact ⟨⟨k + 1, by omega, by go_num, by rw [take_snoc s k hlt, bigN_snoc, HX.out, getD_get s k hlt]⟩, by simp [intOf]; omega⟩
    · obtain rfl : k = s.size := by omega
      go_wp2
      go_ret
      exact ⟨ret_int (by rw [beGet, take_all]), Below.refl _ _⟩
end Go.Proofs.YtdmdkkdkmmkalaaGreat
