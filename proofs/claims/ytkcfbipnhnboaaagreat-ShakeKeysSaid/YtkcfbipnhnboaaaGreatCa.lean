/- Small lemmas of this session on worlds, blocks and byte strings; no function of the program is spoken of here. Package octet: PutBig. Plain functions on numbers and bytes: words turned, SHA-256. No program is spoken of here. Words turned: bits.RotateLeft32, octet.Left, digest.right, digest.turned, the reference's Left. Whole arrays and structs loaded out of a block and stored into it. Package digest: the schedule of a block. Package digest: a block mixed in. -/
import Derived.Test.YtkcfbipnhnboaaaGreatProg
import Derived.WalkKit
import Derived.WalkSpells
import Derived.WalkLawsBesides
import Derived.Lib.Hide
import Derived.Lib.ConvBytes
import Derived.Deep.QuietTactic
import Derived.BigQuiet
import Derived.PlainAid
import Derived.Lib.MinMax
import Derived.Deep.MidRow
import Derived.Laws.CopyOwn
import Derived.StillTailTactics

namespace Go.Proofs.YtkcfbipnhnboaaaGreat
open Go.RowKit

/-! ### blocks that are known whole -/
/-- Block g of the world w holds just these cells, none frozen. -/
abbrev Blk (w : World) (g : Nat) (t : TypeId) (cs : Array Value) : Prop := w.heap[g]? = some (.cells cs t (0, 0))

theorem Blk.lt {w : World} {g : Nat} {o : Obj} (h : w.heap[g]? = some o) : g < w.heap.size := (Array.getElem?_eq_some_iff.1 h).1
theorem Blk.cell {w : World} {g : Nat} {t : TypeId} {cs : Array Value} (h : Blk w g t cs) (i : Nat) : w.cell? ⟨g, i, none⟩ = cs[i]? := by simp [World.cell?, h]
theorem Blk.free {w : World} {g : Nat} {t : TypeId} {cs : Array Value} (h : Blk w g t cs) (i : Nat) : w.frozen? ⟨g, i, none⟩ = false := by simp [World.frozen?, h]
theorem Blk.set {w : World} {g : Nat} {t : TypeId} {cs : Array Value} (h : Blk w g t cs) (i : Nat) (u : Value) : Blk (w.setCell ⟨g, i, none⟩ u) g t (cs.setIfInBounds i u) := by
  simp only [Blk, World.setCell, Array.getElem?_modify]; simp [h]
theorem Blk.far {w : World} {g : Nat} {o : Obj} (h : w.heap[g]? = some o) {p : Addr} (hp : g ≠ p.block) (u : Value) : (w.setCell p u).heap[g]? = some o := (Below.heap_setCell w p u g hp).trans h
theorem Blk.alloc {w : World} {g : Nat} {o : Obj} (h : w.heap[g]? = some o) (o' : Obj) : (w.alloc o').heap[g]? = some o := (Below.heap_alloc w o' g (Blk.lt h)).trans h
theorem Blk.drew {w : World} {g : Nat} {o : Obj} (h : w.heap[g]? = some o) : w.drew.heap[g]? = some o := h
theorem Blk.drewN {w : World} {g : Nat} {o : Obj} (h : w.heap[g]? = some o) (n : Nat) : (w.drewN n).heap[g]? = some o := h
theorem Blk.below {w w1 : World} {g : Nat} {o : Obj} (h : w.heap[g]? = some o) (hb : Below w.heap.size w w1) : w1.heap[g]? = some o := (hb.block g (Blk.lt h)).trans h
theorem Blk.new (w : World) (o : Obj) : (w.alloc o).heap[w.heap.size]? = some o := by show (w.heap.push o)[w.heap.size]? = _; simp
theorem Blk.new_at {w : World} {g : Nat} (o : Obj) (h : g = w.heap.size) : (w.alloc o).heap[g]? = some o := by subst h; exact Blk.new w o
theorem below_drewN {B : Nat} {w W : World} (h : Below B w W) (n : Nat) : Below B w (W.drewN n) := ⟨h.os, h.tape, h.output, h.size, h.block⟩
theorem below_then {B : Nat} {w w1 w2 : World} (h : Below B w w1) (hB : B ≤ w1.heap.size) (k : Below w1.heap.size w1 w2) : Below B w w2 := h.trans (k.mono hB)
theorem bcell {W w1 : World} (hb : Below W.heap.size W w1) : (∀ b o, b < W.heap.size → w1.cell? ⟨b, o, none⟩ = W.cell? ⟨b, o, none⟩) ∧ (∀ b o, b < W.heap.size → w1.frozen? ⟨b, o, none⟩ = W.frozen? ⟨b, o, none⟩) :=
  ⟨fun b o h => hb.cell (p := ⟨b, o, none⟩) h, fun b o h => hb.frozen (p := ⟨b, o, none⟩) h⟩

theorem ret_int {k : IntKind} {a b : Int} (h : a = b) : Ending.returned (.int k a) = .returned (.int k b) := by rw [h]
theorem ret_str {a b : ByteArray} (h : a = b) : Ending.returned (.string a) = .returned (.string b) := by rw [h]
theorem ret_bool {a b : Bool} (h : a = b) : Ending.returned (.bool a) = .returned (.bool b) := by rw [h]

/-- Below 2 to the 64th (behind a name: the walk does not like great numerals). -/
def U64 (v : Nat) : Prop := v < 2 ^ 64

theorem U64.div {v : Nat} (h : U64 v) (k : Nat) : U64 (v / k) := Nat.lt_of_le_of_lt (Nat.div_le_self v k) h
theorem U64.of {v : Nat} (h : v < 4294967296) : U64 v := by unfold U64; omega
theorem u64_wrap {v : Nat} (h : U64 v) : IntKind.u64.wrap (v : Int) = v := IntWalk.u64_in _ (by unfold U64 at h; omega)
theorem u64_div256 {v : Nat} (h : U64 v) : IntKind.u64.wrap ((v : Int) / 256) = ((v / 256 : Nat) : Int) := by
  have := u64_wrap (U64.div h 256)
  rwa [Int.natCast_ediv] at this
theorem u64_and255 {v : Nat} (h : U64 v) : bits .and .u64 (v : Int) 255 = ((v % 256 : Nat) : Int) := by
  rw [show (255 : Int) = ((255 : Nat) : Int) from rfl, u64_and_nat v 255 (by unfold U64 at h; omega) (by omega)]
  have : v &&& 255 = v % 256 := Nat.and_two_pow_sub_one_eq_mod v 8
  rw [this]

theorem u64_byte {x c : Nat} (hx : x < 2 ^ 56) (hc : c < 256) : bits .or .u64 (IntKind.u64.wrap ((x : Int) * 256)) (IntKind.u64.wrap (c : Int)) = ((x * 256 + c : Nat) : Int) := by
  have h1 : IntKind.u64.wrap ((x : Int) * 256) = ((x * 256 : Nat) : Int) := u64_wrap (v := x * 256) (by unfold U64; omega)
  rw [h1, u64_wrap (v := c) (by unfold U64; omega), u64_or_nat _ _ (by omega) (by omega)]
  have := Nat.shiftLeft_add_eq_or_of_lt (i := 8) hc x
  rw [Nat.shiftLeft_eq] at this
  rw [this]
theorem u64_byte_plain {x c : Nat} (hx : x < 2 ^ 56) (hc : c < 256) : IntKind.u64.wrap (IntKind.u64.wrap ((x : Int) * 256) + IntKind.u64.wrap (c : Int)) = ((x * 256 + c : Nat) : Int) := by
  have h1 : IntKind.u64.wrap ((x : Int) * 256) = ((x * 256 : Nat) : Int) := u64_wrap (v := x * 256) (by unfold U64; omega)
  rw [h1, u64_wrap (v := c) (by unfold U64; omega)]
  exact u64_wrap (v := x * 256 + c) (by unfold U64; omega)

/-! ### bytes -/
/-- The byte cells of a list of numbers. -/
def byteCells (l : List Nat) : Array Value := (l.map fun x : Nat => Value.int .u8 (x : Int)).toArray
/-- The string of a list of numbers below 256. -/
def strOf (l : List Nat) : ByteArray := ⟨(l.map UInt8.ofNat).toArray⟩
theorem strOf_size (l : List Nat) : (strOf l).size = l.length := by simp [strOf, ByteArray.size]
theorem byteCells_size (l : List Nat) : (byteCells l).size = l.length := by simp [byteCells]
theorem byteCells_zero (n : Nat) : byteCells (List.replicate n 0) = Array.replicate n (.int .u8 0) := by simp [byteCells]
theorem byteCells_get (l : List Nat) (i : Nat) (h : i < l.length) : (byteCells l)[i]? = some (.int .u8 (l[i] : Int)) := by simp [byteCells, h]
theorem byteCells_set (l : List Nat) (i x : Nat) : (byteCells l).setIfInBounds i (.int .u8 (x : Int)) = byteCells (l.set i x) := by
  apply Array.ext'; simp [byteCells, List.map_set]

theorem strNe {a b : ByteArray} (h : ¬ a = b) : (a.toList == b.toList) = false := by
  rw [ByteArray.toList_eq, ByteArray.toList_eq]
  simp only [beq_eq_false_iff_ne, ne_eq]
  intro e
  exact h (ByteArray.ext (Array.ext' e))
theorem strBeq (a b : ByteArray) : (a.toList == b.toList) = decide (a = b) := by
  by_cases h : a = b
  · subst h; simp
  · rw [strNe h]; simp [h]
theorem take_snoc (s : ByteArray) (k : Nat) (h : k < s.size) : s.data.toList.take (k + 1) = s.data.toList.take k ++ [s.data.toList.getD k 0] := by
  have h' : k < s.data.toList.length := by simpa using h
  rw [List.take_succ_eq_append_getElem h', List.getD_eq_getElem?_getD, List.getElem?_eq_getElem h']
  rfl
theorem take_all (s : ByteArray) : s.data.toList.take s.size = s.data.toList := List.take_of_length_le (by simp)
theorem getD_get (s : ByteArray) (k : Nat) (h : k < s.size) : s.data.toList.getD k 0 = s[k] := by
  have h' : k < s.data.toList.length := by simpa using h
  rw [List.getD_eq_getElem?_getD, List.getElem?_eq_getElem h']
  rfl
theorem extract_all (s : ByteArray) : s.extract 0 s.size = s := ByteArray.extract_zero_size
theorem bytes_below {B : Nat} {w W : World} (h : Below B w W) (hB : B ≤ W.heap.size) (e : TypeId) (s : ByteArray) : Below B w (Lib.bytesWorld W e s) :=
  h.trans ⟨rfl, rfl, rfl, by rw [Lib.bytesWorld_size]; omega, fun k hk => Lib.bytesWorld_at_old W e s k (by omega)⟩

/-- make of n whole numbers. -/
theorem run_make_ints {P : Program} (t e : TypeId) (k : IntKind) (bytes : Nat) (ht : P.underlying t = some (.slice e)) (hinfo : (P.info? e).map (fun i => (i.zero, i.size, i.bytes)) = some (some (.int k 0), 1, bytes)) (hb : bytes ≤ 16) (n : Nat) (hn : n ≤ 1099511627776) (w : World) :
    (Instr.makeSlice t (.int .i64 (n : Int)) (.int .i64 (n : Int))).run P w = .ok (.slice (some ⟨w.heap.size, 0, none⟩) n n) (w.alloc (.cells (List.replicate n (.int k 0)).toArray e)) := by
  obtain ⟨i0, hi, hz0, hz1, hz2⟩ := info_parts hinfo
  have h1 : (i0.bytes : Int) * (n : Int) ≤ 281474976710656 := by
    have : i0.bytes * n ≤ 16 * 1099511627776 := Nat.mul_le_mul (by omega) hn
    have : ((i0.bytes * n : Nat) : Int) ≤ 281474976710656 := by omega
    rwa [Int.natCast_mul] at this
  have h := run_make (P := P) w t e i0 (.int k 0) ht hi hz0 .i64 .i64 n n (by omega) (by omega) h1 (by omega)
  rw [h, hz1]
  simp only [Int.toNat_natCast, Nat.mul_one]
  congr 3
  apply Array.ext'
  rw [show (Value.int k 0).cells = #[.int k 0] from rfl, toList_madeCells_one]

/-- string(b), of a block of bytes that is known whole. -/
theorem run_string_of_blk {P : Program} (src dst e : TypeId) (hs : P.underlying src = some (.slice e)) (he : P.underlying e = some (.int .u8)) (hd : P.underlying dst = some .string) {w : World} {g : Nat} {t : TypeId} {l : List Nat} (h : Blk w g t (byteCells l)) (n c : Nat) (hn : n = l.length) :
    (convert src dst (.slice (some ⟨g, 0, none⟩) n c)).run P w = .ok (.string (strOf l)) w := by
  subst hn
  rw [run_convert_bytes_arg w src e hs he g 0 l.length c (l.map fun x : Nat => (x : Int)) (by simp) (by
    intro i hi
    rw [Nat.zero_add, Blk.cell h, byteCells_get _ _ hi]
    simp [hi]) dst hd]
  congr 2
  simp only [strOfNums, strOf, List.map_map]
  congr 2
end Go.Proofs.YtkcfbipnhnboaaaGreat

namespace Go.Proofs.YtkcfbipnhnboaaaGreat
open Go.RowKit

/-- The bytes of a number, the highest first. -/
def bigL (v n : Nat) : List Nat := (List.range n).map fun i => v / 2 ^ (8 * (n - 1 - i)) % 256
def bePut (v n : Nat) : ByteArray := strOf (bigL v n)

/-- While the bytes are filled in from behind: the last k are there. -/
def bigPart (v n k : Nat) : List Nat := (List.range n).map fun i => if n - k ≤ i then v / 2 ^ (8 * (n - 1 - i)) % 256 else 0
theorem bigPart_zero (v n : Nat) : bigPart v n 0 = List.replicate n 0 := by
  apply List.ext_getElem <;> simp [bigPart]
  intro i h; omega
theorem bigPart_full (v n : Nat) : bigPart v n n = bigL v n := by
  apply List.ext_getElem <;> simp [bigPart, bigL]
theorem bigPart_length (v n k : Nat) : (bigPart v n k).length = n := by simp [bigPart]
theorem bigPart_succ (v n k : Nat) (h : k < n) : (bigPart v n k).set (n - 1 - k) (v / 2 ^ (8 * k) % 256) = bigPart v n (k + 1) := by
  apply List.ext_getElem
  · simp [bigPart]
  · intro i h1 h2
    simp only [bigPart, List.getElem_set, List.getElem_map, List.getElem_range]
    by_cases e : n - 1 - k = i
    · subst e
      rw [if_pos rfl, if_pos (by omega)]
      congr 3; omega
    · rw [if_neg e]
      by_cases e2 : n - k ≤ i
      · rw [if_pos e2, if_pos (by omega)]
      · rw [if_neg e2, if_neg (by omega)]

set_option maxRecDepth 100000 in
set_option maxHeartbeats 400000 in
theorem putBig_any (v n : Nat) (w : World) (_hv : U64 v) (h1 : 1 ≤ n) (h8 : n ≤ 8) :
    Calls Tryz.prog 108 #[.int .u64 v, .int .i64 n] w fun e w' => e = .returned (.string (bePut v n)) ∧ Below w.heap.size w w' := by
  have hmk := run_make_ints (P := Tryz.prog) 42 5 .u8 1 Tryz.underlying42 (by kernel_rfl) (by decide) n (by omega)
  have h10 : ¬ n < 1 := by omega
  have h11 : ¬ 8 < n := by omega
  go_enter Tryz.func108, Tryz.ntmps108
  go_wp2
  go_loopw [17] (fun i wr => ∃ k : Nat, k ≤ n ∧ i = .int .i64 k ∧ Blk wr w.heap.size 5 (byteCells (bigPart v n k)) ∧ Below w.heap.size w wr) (fun i _ => n - (intOf i).toNat)
  case atStart => exact ⟨0, Nat.zero_le _, rfl, by rw [bigPart_zero, byteCells_zero]; exact Blk.new w _, (Below.refl _ _).alloc (Nat.le_refl _) _⟩
  case round =>
    obtain ⟨k, hk, rfl, hblk, hb⟩ := hrel
    by_cases hlt : k < n
    · have hc := Blk.cell hblk (n - 1 - k)
      rw [byteCells_get _ _ (by rw [bigPart_length]; omega)] at hc
      have hf := Blk.free hblk (n - 1 - k)
      go_wp2
      have hs := Blk.set hblk (n - 1 - k) (.int .u8 ((v / 2 ^ (8 * k) % 256 : Nat) : Int))
      rw [byteCells_set, bigPart_succ _ _ _ hlt] at hs
      have e1 : ((v / 2 ^ (8 * k) % 256 : Nat) : Int) = (v : Int) / 2 ^ (8 * k) % 256 := by simp
      rw [e1] at hs
      exact ⟨⟨k + 1, by omega, by go_num, hs, hb.setCell (Nat.le_refl _) _⟩, by simp [intOf]; omega⟩
    · obtain rfl : k = n := by omega
      rw [bigPart_full] at hblk
      have hconv := run_string_of_blk (P := Tryz.prog) 42 9 5 Tryz.underlying42 Tryz.underlying5 Tryz.underlying9 hblk k k (by simp [bigL])
      go_wp2
      go_ret
      exact ⟨rfl, hb⟩
set_option maxRecDepth 100000 in
set_option maxHeartbeats 400000 in
theorem refPutBig_any (v n : Nat) (w : World) (_hv : U64 v) (h1 : 1 ≤ n) (h8 : n ≤ 8) :
    Calls Tryz.prog 76 #[.int .u64 v, .int .i64 n] w fun e w' => e = .returned (.string (bePut v n)) ∧ Below w.heap.size w w' := by
  have hmk := run_make_ints (P := Tryz.prog) 42 5 .u8 1 Tryz.underlying42 (by kernel_rfl) (by decide) n (by omega)
  have h10 : ¬ n < 1 := by omega
  have h11 : ¬ 8 < n := by omega
  go_enter Tryz.func76, Tryz.ntmps76
  go_wp2
  go_loopw [0, 6] (fun x i wr => ∃ k : Nat, k ≤ n ∧ i = .int .i64 ((n : Int) - 1 - k) ∧ x = .int .u64 ((v / 2 ^ (8 * k) : Nat) : Int) ∧ Blk wr w.heap.size 5 (byteCells (bigPart v n k)) ∧ Below w.heap.size w wr) (fun _ i _ => ((intOf i) + 1).toNat)
  case atStart => exact ⟨0, Nat.zero_le _, by go_num, by simp, by rw [bigPart_zero, byteCells_zero]; exact Blk.new w _, (Below.refl _ _).alloc (Nat.le_refl _) _⟩
  case round =>
    obtain ⟨k, hk, rfl, rfl, hblk, hb⟩ := hrel
    obtain ⟨x, hx⟩ : ∃ x : Nat, v / 2 ^ (8 * k) = x := ⟨_, rfl⟩
    rw [hx]
    have hX := Lib.hid hx
    clear hx
    by_cases hlt : k < n
    · have hc := Blk.cell hblk (n - 1 - k)
      rw [byteCells_get _ _ (by rw [bigPart_length]; omega)] at hc
      have hf := Blk.free hblk (n - 1 - k)
      have ht : ((n : Int) - 1 - k).toNat = n - 1 - k := by omega
      go_wp2
      have hU : U64 x := hX.out ▸ U64.div _hv _
      have hs := Blk.set hblk (n - 1 - k) (.int .u8 ((v / 2 ^ (8 * k) % 256 : Nat) : Int))
      rw [byteCells_set, bigPart_succ _ _ _ hlt, hX.out] at hs
      have e1 : v / 2 ^ (8 * (k + 1)) = x / 256 := by rw [← hX.out, Nat.div_div_eq_div_mul, Nat.mul_add, Nat.pow_add]
      rw [u64_div256 hU, u64_and255 hU, show ((x % 256 : Nat) : Int) % 256 = ((x % 256 : Nat) : Int) from by omega]
      exact ⟨⟨k + 1, by omega, by go_num, by rw [e1], hs, hb.setCell (Nat.le_refl _) _⟩, by simp [intOf]; omega⟩
    · obtain rfl : k = n := by omega
      rw [bigPart_full] at hblk
      have hconv := run_string_of_blk (P := Tryz.prog) 42 9 5 Tryz.underlying42 Tryz.underlying5 Tryz.underlying9 hblk k k (by simp [bigL])
      go_wp2
      go_ret
      exact ⟨rfl, hb⟩
/-- The number of bytes, the highest first. -/
def bigN (l : List UInt8) : Nat := l.foldl (fun v c => v * 256 + c.toNat) 0
theorem bigN_snoc (l : List UInt8) (c : UInt8) : bigN (l ++ [c]) = bigN l * 256 + c.toNat := by simp [bigN]
theorem foldl_lt (l : List UInt8) : ∀ (v n : Nat), v < 256 ^ n → l.foldl (fun v c => v * 256 + c.toNat) v < 256 ^ (n + l.length) := by
  induction l with
  | nil => intro v n h; simpa using h
  | cons c l ih =>
    intro v n h
    have := ih (v * 256 + c.toNat) (n + 1) (by rw [Nat.pow_succ]; have := c.toNat_lt; omega)
    simpa [Nat.add_assoc, Nat.add_comm 1] using this
theorem bigN_lt (l : List UInt8) : bigN l < 256 ^ l.length := by have := foldl_lt l 0 0 (by simp); rw [Nat.zero_add] at this; exact this
def beGet (s : ByteArray) : Nat := bigN s.data.toList
set_option maxRecDepth 100000 in
set_option maxHeartbeats 400000 in
theorem big_any (s : ByteArray) (w : World) (hs : s.size ≤ 8) :
    Calls Tryz.prog 130 #[.string s] w fun e w' => e = .returned (.int .u64 (beGet s)) ∧ Below w.heap.size w w' := by
  have hmax : max ((s.size : Int) - 8) 0 = 0 := by omega
  have hext := extract_all s
  have hcv := fun w => Lib.run_convert_string_bytes (P := Tryz.prog) w 9 42 5 s Tryz.underlying9 Tryz.underlying42 Tryz.underlying5
  go_enter Tryz.func130, Tryz.ntmps130
  go_wp2
  go_loop [3, 14] (fun x i => ∃ k : Nat, k ≤ s.size ∧ i = .int .i64 k ∧ x = .int .u64 (bigN (s.data.toList.take k) : Nat)) (fun _ i => s.size - (intOf i).toNat)
  case atStart => exact ⟨0, Nat.zero_le _, rfl, by simp [bigN]⟩
  case round =>
    obtain ⟨k, hk, rfl, rfl⟩ := hrel
    by_cases hlt : k < s.size
    · have hc := Lib.bytesWorld_cell w 5 s k hlt
      obtain ⟨x, hx⟩ : ∃ x : Nat, bigN (s.data.toList.take k) = x := ⟨_, rfl⟩
      obtain ⟨c, hcc⟩ : ∃ c : Nat, (s.data.toList.getD k 0).toNat = c := ⟨_, rfl⟩
      rw [hcc] at hc
      rw [hx]
      have HX := Lib.hid hx
      have HC := Lib.hid hcc
      clear hx hcc hext hmax hcv
      go_wp2
      have hxl : x < 2 ^ 56 := by
        have h1 := bigN_lt (s.data.toList.take k)
        rw [HX.out] at h1
        refine Nat.lt_of_lt_of_le h1 ?_
        have h2 : (s.data.toList.take k).length ≤ 7 := Nat.le_trans (List.length_take_le _ _) (by omega)
        exact Nat.pow_le_pow_right (n := 256) (by omega) h2
      have hcl : c < 256 := HC.out ▸ UInt8.toNat_lt _
      rw [u64_byte hxl hcl]
      exact ⟨⟨k + 1, by omega, by go_num, by rw [take_snoc s k hlt, bigN_snoc, HX.out, HC.out]⟩, by simp [intOf]; omega⟩
    · obtain rfl : k = s.size := by omega
      go_wp2
      go_ret
      exact ⟨ret_int (by rw [beGet, take_all]), bytes_below (Below.refl _ _) (Nat.le_refl _) _ _⟩

set_option maxRecDepth 100000 in
set_option maxHeartbeats 400000 in
theorem refBig_any (s : ByteArray) (w : World) (hs : s.size ≤ 8) :
    Calls Tryz.prog 77 #[.string s] w fun e w' => e = .returned (.int .u64 (beGet s)) ∧ Below w.heap.size w w' := by
  have hmax : max ((s.size : Int) - 8) 0 = 0 := by omega
  go_enter Tryz.func77, Tryz.ntmps77
  go_wp2
  go_loop [3, 4] (fun x i => ∃ k : Nat, k ≤ s.size ∧ i = .int .i64 k ∧ x = .int .u64 (bigN (s.data.toList.take k) : Nat)) (fun _ i => s.size - (intOf i).toNat)
  case atStart => exact ⟨0, Nat.zero_le _, rfl, by simp [bigN]⟩
  case round =>
    obtain ⟨k, hk, rfl, rfl⟩ := hrel
    by_cases hlt : k < s.size
    · obtain ⟨x, hx⟩ : ∃ x : Nat, bigN (s.data.toList.take k) = x := ⟨_, rfl⟩
      rw [hx]
      have HX := Lib.hid hx
      clear hx hmax
      go_wp2
      have hxl : x < 2 ^ 56 := by
        have h1 := bigN_lt (s.data.toList.take k)
        rw [HX.out] at h1
        refine Nat.lt_of_lt_of_le h1 ?_
        have h2 : (s.data.toList.take k).length ≤ 7 := Nat.le_trans (List.length_take_le _ _) (by omega)
        exact Nat.pow_le_pow_right (n := 256) (by omega) h2
      rw [u64_byte_plain hxl (UInt8.toNat_lt _)]
      exact ⟨⟨k + 1, by omega, by go_num, by rw [take_snoc s k hlt, bigN_snoc, HX.out, getD_get s k hlt]⟩, by simp [intOf]; omega⟩
    · obtain rfl : k = s.size := by omega
      go_wp2
      go_ret
      exact ⟨ret_int (by rw [beGet, take_all]), Below.refl _ _⟩
end Go.Proofs.YtkcfbipnhnboaaaGreat

namespace Go.Proofs.YtkcfbipnhnboaaaGreat

/-- A 32-bit word turned to the left by s. -/
def rotl (x s : Nat) : Nat := (x * 2 ^ s % 4294967296) ||| (x / 2 ^ (32 - s))
/-- A 32-bit word turned to the right by s. -/
def rotr (x s : Nat) : Nat := rotl x (32 - s)
theorem rotl_lt (x s : Nat) (hx : x < 4294967296) : rotl x s < 4294967296 := by
  have h1 : x * 2 ^ s % 4294967296 < 2 ^ 32 := Nat.mod_lt _ (by decide)
  have h2 : x / 2 ^ (32 - s) < 2 ^ 32 := Nat.lt_of_le_of_lt (Nat.div_le_self _ _) hx
  exact Nat.or_lt_two_pow h1 h2
theorem rotr_lt (x s : Nat) (hx : x < 4294967296) : rotr x s < 4294967296 := rotl_lt x _ hx
theorem xor32 {a b : Nat} (ha : a < 4294967296) (hb : b < 4294967296) : a ^^^ b < 4294967296 := Nat.xor_lt_two_pow (n := 32) ha hb
theorem and32 {a b : Nat} (hb : b < 4294967296) : a &&& b < 4294967296 := Nat.and_lt_two_pow (n := 32) a hb

/-- Three turnings, xored. -/
def turned3 (x a b c : Nat) : Nat := rotr x a ^^^ rotr x b ^^^ rotr x c
theorem turned3_lt (x a b c : Nat) (hx : x < 4294967296) : turned3 x a b c < 4294967296 := xor32 (xor32 (rotr_lt _ _ hx) (rotr_lt _ _ hx)) (rotr_lt _ _ hx)

def sig0 (x : Nat) : Nat := rotr x 7 ^^^ rotr x 18 ^^^ (x / 8)
def sig1 (x : Nat) : Nat := rotr x 17 ^^^ rotr x 19 ^^^ (x / 1024)

/-- Word t of a block's schedule, behind those that are there. -/
def schedNext (blk : ByteArray) (l : List Nat) : Nat :=
  if l.length < 16 then beGet (blk.extract (4 * l.length) (4 * l.length + 4))
  else (((l.getD (l.length - 16) 0 + sig0 (l.getD (l.length - 15) 0)) % 4294967296 + l.getD (l.length - 7) 0) % 4294967296 + sig1 (l.getD (l.length - 2) 0)) % 4294967296
/-- The first t words of a block's schedule. -/
def schedTo (blk : ByteArray) : Nat → List Nat
  | 0 => []
  | t + 1 => schedTo blk t ++ [schedNext blk (schedTo blk t)]
theorem schedTo_length (blk : ByteArray) (t : Nat) : (schedTo blk t).length = t := by
  induction t with
  | zero => rfl
  | succ t ih => simp [schedTo, ih]

/-- Eight words. -/
structure W8 where
  a : Nat
  b : Nat
  c : Nat
  d : Nat
  e : Nat
  f : Nat
  g : Nat
  h : Nat
def W8.Ok (s : W8) : Prop := s.a < 4294967296 ∧ s.b < 4294967296 ∧ s.c < 4294967296 ∧ s.d < 4294967296 ∧ s.e < 4294967296 ∧ s.f < 4294967296 ∧ s.g < 4294967296 ∧ s.h < 4294967296
def W8.list (s : W8) : List Nat := [s.a, s.b, s.c, s.d, s.e, s.f, s.g, s.h]

def shaT1 (x : W8) (k w : Nat) : Nat :=
  ((((x.h + turned3 x.e 6 11 25) % 4294967296 + ((x.e &&& x.f) ^^^ ((4294967295 - x.e) &&& x.g))) % 4294967296 + k) % 4294967296 + w) % 4294967296
def shaT2 (x : W8) : Nat := (turned3 x.a 2 13 22 + ((x.a &&& x.b) ^^^ (x.a &&& x.c) ^^^ (x.b &&& x.c))) % 4294967296
def shaRound (x : W8) (k w : Nat) : W8 :=
  ⟨(shaT1 x k w + shaT2 x) % 4294967296, x.a, x.b, x.c, (x.d + shaT1 x k w) % 4294967296, x.e, x.f, x.g⟩
theorem shaRound_ok (x : W8) (k w : Nat) (h : x.Ok) : (shaRound x k w).Ok := by
  obtain ⟨h1, h2, h3, h4, h5, h6, h7, h8⟩ := h
  exact ⟨Nat.mod_lt _ (by decide), h1, h2, h3, Nat.mod_lt _ (by decide), h5, h6, h7⟩

def kTab : List Nat := [
  0x428a2f98, 0x71374491, 0xb5c0fbcf, 0xe9b5dba5, 0x3956c25b, 0x59f111f1, 0x923f82a4, 0xab1c5ed5,
  0xd807aa98, 0x12835b01, 0x243185be, 0x550c7dc3, 0x72be5d74, 0x80deb1fe, 0x9bdc06a7, 0xc19bf174,
  0xe49b69c1, 0xefbe4786, 0x0fc19dc6, 0x240ca1cc, 0x2de92c6f, 0x4a7484aa, 0x5cb0a9dc, 0x76f988da,
  0x983e5152, 0xa831c66d, 0xb00327c8, 0xbf597fc7, 0xc6e00bf3, 0xd5a79147, 0x06ca6351, 0x14292967,
  0x27b70a85, 0x2e1b2138, 0x4d2c6dfc, 0x53380d13, 0x650a7354, 0x766a0abb, 0x81c2c92e, 0x92722c85,
  0xa2bfe8a1, 0xa81a664b, 0xc24b8b70, 0xc76c51a3, 0xd192e819, 0xd6990624, 0xf40e3585, 0x106aa070,
  0x19a4c116, 0x1e376c08, 0x2748774c, 0x34b0bcb5, 0x391c0cb3, 0x4ed8aa4a, 0x5b9cca4f, 0x682e6ff3,
  0x748f82ee, 0x78a5636f, 0x84c87814, 0x8cc70208, 0x90befffa, 0xa4506ceb, 0xbef9a3f7, 0xc67178f2]
def hFirst : W8 := ⟨0x6a09e667, 0xbb67ae85, 0x3c6ef372, 0xa54ff53a, 0x510e527f, 0x9b05688c, 0x1f83d9ab, 0x5be0cd19⟩
theorem hFirst_ok : hFirst.Ok := by unfold W8.Ok hFirst; decide

/-- The state behind the first i rounds of a block. -/
def shaTo (s : W8) (ws : List Nat) : Nat → W8
  | 0 => s
  | i + 1 => shaRound (shaTo s ws i) (kTab.getD i 0) (ws.getD i 0)
theorem shaTo_ok (s : W8) (ws : List Nat) (h : s.Ok) (i : Nat) : (shaTo s ws i).Ok := by
  induction i with
  | zero => exact h
  | succ i ih => exact shaRound_ok _ _ _ ih
def W8.add (s x : W8) : W8 := ⟨(s.a + x.a) % 4294967296, (s.b + x.b) % 4294967296, (s.c + x.c) % 4294967296, (s.d + x.d) % 4294967296, (s.e + x.e) % 4294967296, (s.f + x.f) % 4294967296, (s.g + x.g) % 4294967296, (s.h + x.h) % 4294967296⟩
theorem W8.add_ok (s x : W8) : (s.add x).Ok := by
  refine ⟨?_, ?_, ?_, ?_, ?_, ?_, ?_, ?_⟩ <;> exact Nat.mod_lt _ (by decide)
/-- A block mixed in. -/
def shaMix (s : W8) (blk : ByteArray) : W8 := (shaTo s (schedTo blk 64) 64).add s
/-- All whole blocks of the first n blocks mixed in. -/
def shaBlocks (s : W8) (m : ByteArray) : Nat → W8
  | 0 => s
  | n + 1 => shaMix (shaBlocks s m n) (m.extract (64 * n) (64 * n + 64))
theorem shaBlocks_ok (s : W8) (m : ByteArray) (h : s.Ok) (n : Nat) : (shaBlocks s m n).Ok := by
  cases n with
  | zero => exact h
  | succ n => exact W8.add_ok _ _
/-- How many zeros stand between the mark and the length. -/
def shaZeros (n : Nat) : Nat := (119 - n % 64) % 64
def zeroB (n : Nat) : ByteArray := strOf (List.replicate n 0)
/-- The bytes with mark, zeros and length. -/
def shaPadded (b : ByteArray) : ByteArray := b ++ (⟨#[128]⟩ ++ zeroB (shaZeros b.size) ++ bePut (b.size * 8) 8)
def W8.bytes (s : W8) : ByteArray := bePut s.a 4 ++ bePut s.b 4 ++ bePut s.c 4 ++ bePut s.d 4 ++ bePut s.e 4 ++ bePut s.f 4 ++ bePut s.g 4 ++ bePut s.h 4
/-- SHA-256. -/
def sha256 (b : ByteArray) : ByteArray := (shaBlocks hFirst (shaPadded b) ((shaPadded b).size / 64)).bytes
theorem bePut_size (v n : Nat) : (bePut v n).size = n := by simp [bePut, strOf_size, bigL]
theorem sha256_size (b : ByteArray) : (sha256 b).size = 32 := by simp [sha256, W8.bytes, bePut_size]
end Go.Proofs.YtkcfbipnhnboaaaGreat

namespace Go.Proofs.YtkcfbipnhnboaaaGreat
open Go.RowKit

theorem rotl_int (x s : Nat) (hx : x < 4294967296) : bits .or .u32 ((x : Int) * 2 ^ s % 4294967296) ((x : Int) / 2 ^ (32 - s)) = (rotl x s : Nat) := by
  have h1 : ((x : Int) * 2 ^ s % 4294967296) = ((x * 2 ^ s % 4294967296 : Nat) : Int) := by simp
  have h2 : ((x : Int) / 2 ^ (32 - s)) = ((x / 2 ^ (32 - s) : Nat) : Int) := by simp
  rw [h1, h2, u32_or_nat _ _ (Nat.mod_lt _ (by decide)) (Nat.lt_of_le_of_lt (Nat.div_le_self _ _) hx)]
  rfl

set_option maxRecDepth 100000 in
set_option maxHeartbeats 400000 in
theorem rotl32_any (x s : Nat) (w : World) (hx : x < 4294967296) (hs : s ≤ 31) :
    Calls Tryz.prog 149 #[.int .u32 x, .int .i64 s] w fun e w' => e = .returned (.int .u32 (rotl x s : Nat)) ∧ w = w' := by
  have hx' : (x : Int) ≤ 4294967295 := by omega
  have h1 : bits .and .u64 (s : Int) 31 = (s : Int) := by
    rw [show (31 : Int) = ((31 : Nat) : Int) from rfl, u64_and_nat s 31 (by omega) (by omega)]
    have : s &&& 31 = s % 32 := Nat.and_two_pow_sub_one_eq_mod s 5
    rw [this, Nat.mod_eq_of_lt (by omega)]
  clear hx
  go_enter Tryz.func149, Tryz.ntmps149
  go_wp2
  go_ret
  exact ⟨ret_int (rotl_int x s (by omega)), rfl⟩

set_option maxRecDepth 100000 in
set_option maxHeartbeats 400000 in
theorem left_pos (x s : Nat) (w : World) (hx : x < 4294967296) (hs : s ≤ 31) :
    Calls Tryz.prog 148 #[.int .u32 x, .int .i64 s] w fun e w' => e = .returned (.int .u32 (rotl x s : Nat)) ∧ w = w' := by
  have h1 : ((s : Int) % 32) = (s : Int) := by omega
  have h2 : ((s : Int) + 32) % 32 = (s : Int) := by omega
  go_enter Tryz.func148, Tryz.ntmps148
  go_wp2_with fail
  refine (rotl32_any x s _ hx hs).mono ?_
  rintro e w1 ⟨rfl, rfl⟩
  go_wp2
  go_ret
  exact ⟨rfl, rfl⟩

set_option maxRecDepth 100000 in
set_option maxHeartbeats 400000 in
theorem left_neg (x m : Nat) (w : World) (hx : x < 4294967296) (h0 : 1 ≤ m) (hm : m ≤ 31) :
    Calls Tryz.prog 148 #[.int .u32 x, .int .i64 (-(m : Int))] w fun e w' => e = .returned (.int .u32 (rotr x m : Nat)) ∧ w = w' := by
  have h1 : (-(m : Int)).tmod 32 = -(m : Int) := by
    rw [Int.neg_tmod, Int.tmod_eq_emod_of_nonneg (by omega)]; omega
  have h2 : (-(m : Int) + 32) % 32 = ((32 - m : Nat) : Int) := by omega
  go_enter Tryz.func148, Tryz.ntmps148
  go_wp2_with fail
  refine (rotl32_any x (32 - m) _ hx (by omega)).mono ?_
  rintro e w1 ⟨rfl, rfl⟩
  go_wp2
  go_ret
  exact ⟨rfl, rfl⟩

set_option maxRecDepth 100000 in
set_option maxHeartbeats 400000 in
theorem right_any (x m : Nat) (w : World) (hx : x < 4294967296) (h0 : 1 ≤ m) (hm : m ≤ 31) :
    Calls Tryz.prog 139 #[.int .u32 x, .int .i64 m] w fun e w' => e = .returned (.int .u32 (rotr x m : Nat)) ∧ w = w' := by
  go_enter Tryz.func139, Tryz.ntmps139
  go_wp2_with fail
  refine (left_neg x m _ hx h0 hm).mono ?_
  rintro e w1 ⟨rfl, rfl⟩
  go_wp2
  go_ret
  exact ⟨rfl, rfl⟩

theorem u32_xor_n {a b : Nat} (ha : a < 4294967296) (hb : b < 4294967296) : bits .xor .u32 (a : Int) (b : Int) = ((a ^^^ b : Nat) : Int) := u32_xor_nat a b ha hb

set_option maxRecDepth 100000 in
set_option maxHeartbeats 400000 in
theorem turned_any (x a b c : Nat) (w : World) (hx : x < 4294967296) (ha : 1 ≤ a ∧ a ≤ 31) (hb : 1 ≤ b ∧ b ≤ 31) (hc : 1 ≤ c ∧ c ≤ 31) :
    Calls Tryz.prog 128 #[.int .u32 x, .int .i64 a, .int .i64 b, .int .i64 c] w fun e w' => e = .returned (.int .u32 (turned3 x a b c : Nat)) ∧ w = w' := by
  have l1 := rotr_lt x a hx
  have l2 := rotr_lt x b hx
  have l3 := rotr_lt x c hx
  have l4 := xor32 l1 l2
  have x1 := u32_xor_n l1 l2
  have x2 := u32_xor_n l4 l3
  go_enter Tryz.func128, Tryz.ntmps128
  go_wp2_with fail
  refine (right_any x a _ hx ha.1 ha.2).mono ?_
  rintro e w1 ⟨rfl, rfl⟩
  go_wp2_with fail
  refine (right_any x b _ hx hb.1 hb.2).mono ?_
  rintro e w1 ⟨rfl, rfl⟩
  go_wp2_with fail
  refine (right_any x c _ hx hc.1 hc.2).mono ?_
  rintro e w1 ⟨rfl, rfl⟩
  go_wp2
  go_ret
  exact ⟨rfl, rfl⟩

set_option maxRecDepth 100000 in
set_option maxHeartbeats 400000 in
theorem refLeft_neg (x m : Nat) (w : World) (hx : x < 4294967296) (h0 : 1 ≤ m) (hm : m ≤ 31) :
    Calls Tryz.prog 78 #[.int .u32 x, .int .i64 (-(m : Int))] w fun e w' => e = .returned (.int .u32 (rotr x m : Nat)) ∧ w = w' := by
  have h1 : (-(m : Int)).tmod 32 = -(m : Int) := by
    rw [Int.neg_tmod, Int.tmod_eq_emod_of_nonneg (by omega)]; omega
  have h2 : (-(m : Int) + 32) % 32 = ((32 - m : Nat) : Int) := by omega
  have h3 : (((32 - m : Nat) : Int) == 0) = false := by simp; omega
  have hx' : (x : Int) ≤ 4294967295 := by omega
  have h4 : 32 - (32 - m) = m := by omega
  go_enter Tryz.func78, Tryz.ntmps78
  go_wp2
  go_ret
  exact ⟨ret_int (by have := rotl_int x (32 - m) hx; rw [h4] at this; exact this), rfl⟩

set_option maxRecDepth 100000 in
set_option maxHeartbeats 400000 in
theorem refLeft_pos (x s : Nat) (w : World) (hx : x < 4294967296) (h0 : 1 ≤ s) (hs : s ≤ 31) :
    Calls Tryz.prog 78 #[.int .u32 x, .int .i64 s] w fun e w' => e = .returned (.int .u32 (rotl x s : Nat)) ∧ w = w' := by
  have h1 : ((s : Int) % 32) = (s : Int) := by omega
  have h2 : ((s : Int) + 32) % 32 = (s : Int) := by omega
  have h3 : ((s : Int) == 0) = false := by simp; omega
  have hx' : (x : Int) ≤ 4294967295 := by omega
  go_enter Tryz.func78, Tryz.ntmps78
  go_wp2
  go_ret
  exact ⟨ret_int (rotl_int x s hx), rfl⟩

theorem still_of {P : Program} {f : FuncId} {args : Array Value} {w : World} {v : Value} (h : Calls P f args w fun e w' => e = .returned v ∧ w = w') : Calls P f args w (fun e w'' => e = .returned v ∧ w'' = w) :=
  h.mono fun _ _ ⟨h1, h2⟩ => ⟨h1, h2.symm⟩
theorem sig0_int {x : Nat} (hx : x < 4294967296) : bits .xor .u32 ((rotr x 7 ^^^ rotr x 18 : Nat) : Int) ((x : Int) / 8) = (sig0 x : Nat) := by
  rw [show ((x : Int) / 8) = ((x / 8 : Nat) : Int) by simp, u32_xor_n (xor32 (rotr_lt _ _ hx) (rotr_lt _ _ hx)) (by omega)]
  rfl
theorem sig1_int {x : Nat} (hx : x < 4294967296) : bits .xor .u32 ((rotr x 17 ^^^ rotr x 19 : Nat) : Int) ((x : Int) / 1024) = (sig1 x : Nat) := by
  rw [show ((x : Int) / 1024) = ((x / 1024 : Nat) : Int) by simp, u32_xor_n (xor32 (rotr_lt _ _ hx) (rotr_lt _ _ hx)) (by omega)]
  rfl
theorem u32_add {a b : Nat} : IntKind.u32.wrap ((a : Int) + (b : Int)) = (((a + b) % 4294967296 : Nat) : Int) := by rw [IntKind.wrap_u32]; omega
end Go.Proofs.YtkcfbipnhnboaaaGreat

namespace Go.Proofs.YtkcfbipnhnboaaaGreat
/-- A proposition kept out of the tactics' sight, as a structure: nothing lays it open. -/
structure Box (p : Prop) : Prop where
  out : p
open Go.RowKit
section
variable {P : Program} {w : World}
theorem wp_store_row {op : Oper} {a : Act} {K : Act → World → Prop} {Q : Exit → Act → World → Prop} (ty : TypeId) (x y : Operand) (ho : op.op = .store ty x y)
    (g : Nat) (t : TypeId) (old cells : Array Value) (hx : a.eval x = .pointer (some ⟨g, 0, none⟩)) (hy : a.eval y = .agg cells)
    (hg : Blk w g t old) (hi : (P.info? ty).map (·.size) = some cells.size) (hs : old.size = cells.size) (h1 : cells.all (·.oneCell') = true)
    (h : K (a.put op.dst undef) (w.setRow g cells)) : op.wp P a w K Q := by
  unfold Oper.wp execOp
  simp only [ho, hx, hy, Instr.storeAt, Instr.sureAddr, Sem.run_bind, Sem.run_pure, Result.andThen_ok, run_storeVar_row w g t ty old cells hg hi hs h1]
  exact h
theorem list_store_row {ops : Array Oper} {rest : List Oper} {op : Oper} {a : Act} {Q : Exit → Act → World → Prop} (hgd : op.guard = none) (ty : TypeId) (x y : Operand) (ho : op.op = .store ty x y)
    (g : Nat) (t : TypeId) (old cells : Array Value) (hx : a.eval x = .pointer (some ⟨g, 0, none⟩)) (hy : a.eval y = .agg cells)
    (hg : Blk w g t old) (hi : (P.info? ty).map (·.size) = some cells.size) (hs : old.size = cells.size) (h1 : cells.all (·.oneCell') = true)
    (h : wpList P ops Q rest (a.put op.dst undef) (w.setRow g cells)) : wpList P ops Q (op :: rest) a w :=
  wpList_plain hgd fun _ hK => wp_store_row ty x y ho g t old cells hx hy hg hi hs h1 (hK _ _ h)
theorem Blk.setRow_same {g : Nat} {t : TypeId} {old : Array Value} (h : Blk w g t old) (cs : Array Value) : Blk (w.setRow g cs) g t cs := setRow_heap w g old cs t (0, 0) h
theorem Blk.setRow_far {g k : Nat} {o : Obj} (h : w.heap[k]? = some o) (hk : k ≠ g) (cs : Array Value) : (w.setRow g cs).heap[k]? = some o := (setRow_other w g k cs hk).trans h
end
def u32Cells (l : List Nat) : Array Value := (l.map fun x : Nat => Value.int .u32 (x : Int)).toArray
theorem u32Cells_size (l : List Nat) : (u32Cells l).size = l.length := by simp [u32Cells]
theorem u32Cells_one (l : List Nat) : (u32Cells l).all (·.oneCell') = true := by
  rw [Array.all_eq_true_iff_forall_mem]
  intro v hv
  simp only [u32Cells, List.mem_toArray, List.mem_map] at hv
  obtain ⟨x, _, rfl⟩ := hv
  rfl
theorem u32Cells_get (l : List Nat) (i : Nat) (h : i < l.length) : (u32Cells l)[i]? = some (.int .u32 ((l.getD i 0 : Nat) : Int)) := by simp [u32Cells, h]
theorem u32Cells_set (l : List Nat) (i x : Nat) : (u32Cells l).setIfInBounds i (.int .u32 (x : Int)) = u32Cells (l.set i x) := by
  apply Array.ext'; simp [u32Cells, List.map_set]
end Go.Proofs.YtkcfbipnhnboaaaGreat

namespace Go.Proofs.YtkcfbipnhnboaaaGreat
open Go.RowKit
/-- The schedule while it is made: t words, then zeros. -/
def schedPart (b : ByteArray) (t : Nat) : List Nat := schedTo b t ++ List.replicate (64 - t) 0
theorem schedPart_length (b : ByteArray) (t : Nat) (h : t ≤ 64) : (schedPart b t).length = 64 := by simp [schedPart, schedTo_length]; omega
theorem schedPart_get (b : ByteArray) (t i : Nat) (h : i < t) : (schedPart b t).getD i 0 = (schedTo b t).getD i 0 := by
  have h' : i < (schedTo b t).length := by rw [schedTo_length]; exact h
  simp only [schedPart, List.getD_eq_getElem?_getD, List.getElem?_append_left h']
theorem schedPart_succ (b : ByteArray) (t : Nat) (h : t < 64) : (schedPart b t).set t (schedNext b (schedTo b t)) = schedPart b (t + 1) := by
  have e : 64 - t = (64 - (t + 1)) + 1 := by omega
  have hl : t - (schedTo b t).length = 0 := by rw [schedTo_length]; omega
  rw [schedPart, e, List.replicate_succ, List.set_append_right _ _ (by rw [schedTo_length]; omega), hl, List.set_cons_zero, schedPart, schedTo, List.append_assoc]
  rfl
theorem schedNext_lt (b : ByteArray) (l : List Nat) (hb : b.size = 64) : schedNext b l < 4294967296 := by
  unfold schedNext
  split
  · rename_i h
    have h2 := bigN_lt (b.extract (4 * l.length) (4 * l.length + 4)).data.toList
    have h3 : (b.extract (4 * l.length) (4 * l.length + 4)).data.toList.length = 4 := by
      have : (b.extract (4 * l.length) (4 * l.length + 4)).size = 4 := by rw [ByteArray.size_extract]; omega
      rw [Array.length_toList]; exact this
    rw [h3] at h2
    exact h2
  · exact Nat.mod_lt _ (by decide)
theorem schedTo_lt (b : ByteArray) (hb : b.size = 64) (t i : Nat) : (schedTo b t).getD i 0 < 4294967296 := by
  induction t with
  | zero => simp [schedTo]
  | succ t ih =>
    simp only [schedTo, List.getD_eq_getElem?_getD] at *
    by_cases h : i < (schedTo b t).length
    · rw [List.getElem?_append_left h]; exact ih
    · rw [List.getElem?_append_right (by omega)]
      cases hi : i - (schedTo b t).length with
      | zero => simpa using schedNext_lt b _ hb
      | succ j => simp

set_option maxRecDepth 100000 in
set_option maxHeartbeats 1000000 in
theorem schedule_any (b : ByteArray) (w : World) (hb : b.size = 64) :
    Calls Tryz.prog 127 #[.string b] w fun e w' => e = .returned (.agg (u32Cells (schedTo b 64))) ∧ Below w.heap.size w w' := by
  have HB := Lib.hid hb
  have hbs : 64 ≤ b.size := by omega
  clear hb
  go_enter Tryz.func127, Tryz.ntmps127
  go_wp2
  go_loopw [7] (fun i wr => ∃ t : Nat, t ≤ 64 ∧ i = .int .i64 t ∧ Blk wr (w.heap.size + 1) 137 (u32Cells (schedPart b t)) ∧ Blk wr w.heap.size 137 (u32Cells (List.replicate 64 0)) ∧ Below w.heap.size w wr) (fun i _ => 64 - (intOf i).toNat)
  case atStart => exact ⟨0, by omega, rfl, (by have := Blk.new (w.alloc (.cells (u32Cells (List.replicate 64 0)) 137)) (.cells (u32Cells (schedPart b 0)) 137); rw [World.size_alloc] at this; exact this), (by have := Blk.alloc (Blk.new w (.cells (u32Cells (List.replicate 64 0)) 137)) (.cells (u32Cells (schedPart b 0)) 137); exact this), ((Below.refl _ _).alloc (Nat.le_refl _) _).alloc (by simp) _⟩
  case round =>
    obtain ⟨t, ht, rfl, hblk, hbr, hbel⟩ := hrel
    by_cases hlt : t < 64
    · by_cases h16 : t < 16
      · have hc : wr.cell? ⟨w.heap.size + 1, t, none⟩ = some (.int .u32 (((schedPart b t).getD t 0 : Nat) : Int)) := (Blk.cell hblk t).trans (u32Cells_get _ _ (by rw [schedPart_length _ _ ht]; exact hlt))
        have hf := Blk.free hblk t
        have hx4 : (b.extract (4 * t) (4 * t + 4)).size = 4 := by rw [ByteArray.size_extract]; omega
        have hnx : schedNext b (schedTo b t) = beGet (b.extract (4 * t) (4 * t + 4)) := by rw [schedNext, schedTo_length, if_pos h16]
        have hnl := schedNext_lt b (schedTo b t) HB.out
        rw [hnx] at hnl
        obtain ⟨x, hx⟩ : ∃ x, beGet (b.extract (4 * t) (4 * t + 4)) = x := ⟨_, rfl⟩
        rw [hx] at hnl
        have HX := Lib.hid hx
        have HN := Lib.hid hnx
        clear hx hnx
        go_wp2_with fail
        refine (big_any _ _ (by omega)).mono ?_
        rintro e w1 ⟨rfl, hb1⟩
        rw [HX.out]
        have hblk1 := Blk.below hblk hb1
        have hc1 : w1.cell? ⟨w.heap.size + 1, t, none⟩ = some (.int .u32 (((schedPart b t).getD t 0 : Nat) : Int)) := (hb1.cell (Blk.lt hblk)).trans hc
        have hf1 := Blk.free hblk1 t
        clear hc hf
        go_wp2
        have hs := Blk.set hblk1 t (.int .u32 (x : Int))
        have e1 : schedNext b (schedTo b t) = x := HN.out.trans HX.out
        rw [u32Cells_set, ← e1, schedPart_succ _ _ hlt, e1] at hs
        exact ⟨⟨t + 1, by omega, by go_num, hs, Blk.far (Blk.below hbr hb1) (by show w.heap.size ≠ w.heap.size + 1; omega) _, (below_then hbel hbel.size hb1).setCell (Nat.le_succ _) _⟩, by simp [intOf]; omega⟩
      · have c15 := (Blk.cell hblk (t - 15)).trans (u32Cells_get _ _ (by rw [schedPart_length _ _ ht]; omega))
        have c2 := (Blk.cell hblk (t - 2)).trans (u32Cells_get _ _ (by rw [schedPart_length _ _ ht]; omega))
        have c16 := (Blk.cell hblk (t - 16)).trans (u32Cells_get _ _ (by rw [schedPart_length _ _ ht]; omega))
        have c7 := (Blk.cell hblk (t - 7)).trans (u32Cells_get _ _ (by rw [schedPart_length _ _ ht]; omega))
        have c0 := (Blk.cell hblk t).trans (u32Cells_get _ _ (by rw [schedPart_length _ _ ht]; omega))
        rw [schedPart_get _ _ _ (by omega)] at c15 c2 c16 c7
        obtain ⟨x15, hx15⟩ : ∃ x, (schedTo b t).getD (t - 15) 0 = x := ⟨_, rfl⟩
        obtain ⟨x2, hx2⟩ : ∃ x, (schedTo b t).getD (t - 2) 0 = x := ⟨_, rfl⟩
        obtain ⟨x16, hx16⟩ : ∃ x, (schedTo b t).getD (t - 16) 0 = x := ⟨_, rfl⟩
        obtain ⟨x7, hx7⟩ : ∃ x, (schedTo b t).getD (t - 7) 0 = x := ⟨_, rfl⟩
        have l15 := schedTo_lt b HB.out t (t - 15)
        have l2 := schedTo_lt b HB.out t (t - 2)
        have l16 := schedTo_lt b HB.out t (t - 16)
        have l7 := schedTo_lt b HB.out t (t - 7)
        rw [hx15] at c15 l15
        rw [hx2] at c2 l2
        rw [hx16] at c16 l16
        rw [hx7] at c7 l7
        have HX := Lib.hid (And.intro hx15 (And.intro hx2 (And.intro hx16 hx7)))
        clear hx15 hx2 hx16 hx7
        have hf := Blk.free hblk t
        go_wp2
        go_quiet (fail)
        go_wp2
        obtain ⟨w2, hw2⟩ : ∃ w2, w2 = wr.drewN nq := ⟨_, rfl⟩
        rw [← hw2]
        have c16 : w2.cell? ⟨w.heap.size + 1, t - 16, none⟩ = some (.int .u32 (x16 : Int)) := by rw [hw2]; exact c16
        have c7 : w2.cell? ⟨w.heap.size + 1, t - 7, none⟩ = some (.int .u32 (x7 : Int)) := by rw [hw2]; exact c7
        have c0 : w2.cell? ⟨w.heap.size + 1, t, none⟩ = some (.int .u32 (((schedPart b t).getD t 0 : Nat) : Int)) := by rw [hw2]; exact c0
        have hf : w2.frozen? ⟨w.heap.size + 1, t, none⟩ = false := by rw [hw2]; exact hf
        have hblk2 : Blk w2 (w.heap.size + 1) 137 (u32Cells (schedPart b t)) := by rw [hw2]; exact hblk
        have hbr2 : Blk w2 w.heap.size 137 (u32Cells (List.replicate 64 0)) := by rw [hw2]; exact hbr
        have hbel2 : Below w.heap.size w w2 := by rw [hw2]; exact below_drewN hbel _
        clear hw2 hblk hbr hbel
        have w16 : IntKind.i64.wrap ((t : Int) - 16) = ((t - 16 : Nat) : Int) := by rw [IntWalk.i64_in _ (by omega)]; omega
        have w7 : IntKind.i64.wrap ((t : Int) - 7) = ((t - 7 : Nat) : Int) := by rw [IntWalk.i64_in _ (by omega)]; omega
        have b16 : ((t - 16 : Nat) : Int) < 64 := by omega
        have b7 : ((t - 7 : Nat) : Int) < 64 := by omega
        refine wp_region_still_tail 29 (by kernel_rfl) (by kernel_rfl) ?_
        simp only [List.take_succ_cons, List.take_zero, List.drop_succ_cons, List.drop_zero]
        have xr0 := u32_xor_n (rotr_lt x15 7 l15) (rotr_lt x15 18 l15)
        have xr1 := u32_xor_n (rotr_lt x2 17 l2) (rotr_lt x2 19 l2)
        have xs0 := sig0_int l15
        have xs1 := sig1_int l2
        repeat still_step
        still_call (still_of (right_any x15 7 _ l15 (by omega) (by omega)))
        repeat still_step
        still_call (still_of (right_any x15 18 _ l15 (by omega) (by omega)))
        repeat still_step
        still_call (still_of (right_any x2 17 _ l2 (by omega) (by omega)))
        repeat still_step
        still_call (still_of (right_any x2 19 _ l2 (by omega) (by omega)))
        repeat still_step
        refine wpStill_nil ?_
        go_wp2
        have en : schedNext b (schedTo b t) = (((x16 + sig0 x15) % 4294967296 + x7) % 4294967296 + sig1 x2) % 4294967296 := by
          obtain ⟨e1, e2, e3, e4⟩ := HX.out
          rw [schedNext, schedTo_length, if_neg h16, e1, e2, e3, e4]
        have ev : ((x16 : Int) + (sig0 x15 : Nat) + (x7 : Int) + (sig1 x2 : Nat)) % 4294967296 = ((schedNext b (schedTo b t) : Nat) : Int) := by rw [en]; omega
        rw [ev]
        have hs := Blk.set hblk2 t (.int .u32 ((schedNext b (schedTo b t) : Nat) : Int))
        rw [u32Cells_set, schedPart_succ _ _ hlt] at hs
        exact ⟨⟨t + 1, by omega, by go_num, hs, Blk.drew (Blk.far hbr2 (by show w.heap.size ≠ w.heap.size + 1; omega) _), (hbel2.setCell (Nat.le_succ _) _).drew⟩, by simp [intOf]; omega⟩
    · obtain rfl : t = 64 := by omega
      have hfin : schedPart b 64 = schedTo b 64 := by simp [schedPart]
      rw [hfin] at hblk
      have HR := Lib.hid hbr
      have HK := Lib.hid hblk
      clear hbr hblk hfin
      have hsz : (u32Cells (schedTo b 64)).size = 64 := by rw [u32Cells_size, schedTo_length]
      have HZ := Lib.hid hsz
      clear hsz
      go_wp2_with (first
        | (refine wpList_load_row rfl 137 _ rfl (w.heap.size + 1) rfl 137 _ (0, 0) _ HK.out Tryz.underlying137 rfl (by rw [HZ.out]; kernel_rfl) ?_)
        | (refine list_store_row rfl 137 _ _ rfl w.heap.size 137 _ _ rfl rfl HR.out (by rw [HZ.out]; kernel_rfl) (by rw [HZ.out]; rfl) (u32Cells_one _) ?_))
      refine bodyPost_ret (results_cell_row (P := Tryz.prog) Tryz.results127 _ _ w.heap.size 137 (u32Cells (schedTo b 64)) (0, 0) _ rfl (Blk.setRow_same HR.out _) Tryz.underlying137 rfl (by rw [HZ.out]; kernel_rfl)) rfl ⟨rfl, below_setRow hbel (Nat.le_refl _) _⟩
end Go.Proofs.YtkcfbipnhnboaaaGreat

namespace Go.Proofs.YtkcfbipnhnboaaaGreat
open Go.RowKit

/-- Eight zeros, sixty-four zeros: behind names, so that the walk leaves them whole. -/
def zs8 : List Nat := List.replicate 8 0
def zs64 : List Nat := List.replicate 64 0
theorem zero8 (w : World) : (zeroValue 148).run Tryz.prog w = .ok (.agg (u32Cells zs8)) w := by kernel_rfl
theorem zero64 (w : World) : (zeroValue 137).run Tryz.prog w = .ok (.agg (u32Cells zs64)) w := by kernel_rfl
theorem W8.list_length (s : W8) : s.list.length = 8 := rfl

theorem not32 {e : Nat} (h : e < 4294967296) : bits .xor .u32 IntKind.u32.max (e : Int) = ((4294967295 - e : Nat) : Int) := by
  rw [show IntKind.u32.max = ((4294967295 : Nat) : Int) from rfl, u32_xor_nat _ _ (by omega) h]
  congr 1
  apply Nat.eq_of_testBit_eq
  intro i
  have h1 : (4294967295 : Nat).testBit i = decide (i < 32) := Nat.testBit_two_pow_sub_one (n := 32) (i := i)
  have h2 : (4294967295 - e).testBit i = (decide (i < 32) && !e.testBit i) := by
    have := Nat.testBit_two_pow_sub_succ (x := e) (n := 32) (by omega) i
    rwa [show 2 ^ 32 - (e + 1) = 4294967295 - e by omega] at this
  rw [Nat.testBit_xor, h1, h2]
  by_cases hi : i < 32
  · simp [hi]
  · have : e.testBit i = false := Nat.testBit_lt_two_pow (Nat.lt_of_lt_of_le h (Nat.pow_le_pow_right (n := 2) (i := 32) (j := i) (by decide) (by omega)))
    simp [hi, this]
theorem ch_int {e f g : Nat} (he : e < 4294967296) (hf : f < 4294967296) (hg : g < 4294967296) :
    bits .xor .u32 (bits .and .u32 (e : Int) (f : Int)) (bits .and .u32 (bits .xor .u32 IntKind.u32.max (e : Int)) (g : Int)) = (((e &&& f) ^^^ ((4294967295 - e) &&& g) : Nat) : Int) := by
  rw [not32 he, u32_and_nat _ _ he hf, u32_and_nat _ _ (by omega) hg, u32_xor_n (and32 hf) (and32 hg)]
theorem maj_int {a b c : Nat} (ha : a < 4294967296) (hb : b < 4294967296) (hc : c < 4294967296) :
    bits .xor .u32 (bits .xor .u32 (bits .and .u32 (a : Int) (b : Int)) (bits .and .u32 (a : Int) (c : Int))) (bits .and .u32 (b : Int) (c : Int)) = (((a &&& b) ^^^ (a &&& c) ^^^ (b &&& c) : Nat) : Int) := by
  rw [u32_and_nat _ _ ha hb, u32_and_nat _ _ ha hc, u32_and_nat _ _ hb hc, u32_xor_n (and32 hb) (and32 hc), u32_xor_n (xor32 (and32 hb) (and32 hc)) (and32 hc)]
theorem t1_int {x : W8} {k w : Nat} (he : x.e < 4294967296) (hf : x.f < 4294967296) (hg : x.g < 4294967296) :
    ((x.h : Int) + (turned3 x.e 6 11 25 : Nat) + bits .xor .u32 (bits .and .u32 (x.e : Int) (x.f : Int)) (bits .and .u32 (bits .xor .u32 IntKind.u32.max (x.e : Int)) (x.g : Int)) + (k : Int) + (w : Int)) % 4294967296 = ((shaT1 x k w : Nat) : Int) := by
  rw [ch_int he hf hg, shaT1]; omega
theorem t2_int {x : W8} (ha : x.a < 4294967296) (hb : x.b < 4294967296) (hc : x.c < 4294967296) :
    (((turned3 x.a 2 13 22 : Nat) : Int) + bits .xor .u32 (bits .xor .u32 (bits .and .u32 (x.a : Int) (x.b : Int)) (bits .and .u32 (x.a : Int) (x.c : Int))) (bits .and .u32 (x.b : Int) (x.c : Int))) % 4294967296 = ((shaT2 x : Nat) : Int) := by
  rw [maj_int ha hb hc, shaT2]; omega

theorem new_a {x : W8} {T : Nat} (ha : x.a < 4294967296) (hb : x.b < 4294967296) (hc : x.c < 4294967296) :
    ((T : Int) + (((turned3 x.a 2 13 22 : Nat) : Int) + bits .xor .u32 (bits .xor .u32 (bits .and .u32 (x.a : Int) (x.b : Int)) (bits .and .u32 (x.a : Int) (x.c : Int))) (bits .and .u32 (x.b : Int) (x.c : Int)))) % 4294967296 = (((T + shaT2 x) % 4294967296 : Nat) : Int) := by
  rw [maj_int ha hb hc, shaT2]; omega
theorem eight_set {w : World} {X : Nat} {t : TypeId} {l : W8} (h : Blk w X t (u32Cells l.list)) (a b c d e f g i : Nat) :
    Blk ((((((((w.setCell ⟨X, 0, none⟩ (.int .u32 (a : Int))).setCell ⟨X, 1, none⟩ (.int .u32 (b : Int))).setCell ⟨X, 2, none⟩ (.int .u32 (c : Int))).setCell ⟨X, 3, none⟩ (.int .u32 (d : Int))).setCell ⟨X, 4, none⟩ (.int .u32 (e : Int))).setCell ⟨X, 5, none⟩ (.int .u32 (f : Int))).setCell ⟨X, 6, none⟩ (.int .u32 (g : Int))).setCell ⟨X, 7, none⟩ (.int .u32 (i : Int))) X t (u32Cells (W8.mk a b c d e f g i).list) := by
  have hst := Blk.set (Blk.set (Blk.set (Blk.set (Blk.set (Blk.set (Blk.set (Blk.set h 0 (.int .u32 (a : Int))) 1 (.int .u32 (b : Int))) 2 (.int .u32 (c : Int))) 3 (.int .u32 (d : Int))) 4 (.int .u32 (e : Int))) 5 (.int .u32 (f : Int))) 6 (.int .u32 (g : Int))) 7 (.int .u32 (i : Int))
  simp only [u32Cells_set] at hst
  exact hst
/-- The first j words summed. -/
def addTo (x s : List Nat) (j : Nat) : List Nat := (List.zipWith (fun a b => (a + b) % 4294967296) x s).take j ++ x.drop j
theorem addTo_length (x s : List Nat) (j : Nat) (hx : x.length = 8) (hs : s.length = 8) (hj : j ≤ 8) : (addTo x s j).length = 8 := by simp [addTo, hx, hs]; omega
theorem addTo_get (x s : List Nat) (j : Nat) (hx : x.length = 8) (hs : s.length = 8) (hj : j < 8) : (addTo x s j).getD j 0 = x.getD j 0 := by
  simp only [addTo, List.getD_eq_getElem?_getD]
  rw [List.getElem?_append_right (by simp [hx, hs]; omega)]
  simp [hx, hs]
  rw [Nat.min_eq_left (by omega)]
  simp
theorem addTo_succ (x s : List Nat) (j : Nat) (hx : x.length = 8) (hs : s.length = 8) (hj : j < 8) : (addTo x s j).set j ((x.getD j 0 + s.getD j 0) % 4294967296) = addTo x s (j + 1) := by
  have hl : ((List.zipWith (fun a b => (a + b) % 4294967296) x s).take j).length = j := by simp [hx, hs]; omega
  have hz : (List.zipWith (fun a b => (a + b) % 4294967296) x s)[j]? = some ((x.getD j 0 + s.getD j 0) % 4294967296) := by
    rw [List.getElem?_zipWith]
    simp only [List.getD_eq_getElem?_getD]
    rw [List.getElem?_eq_getElem (by omega), List.getElem?_eq_getElem (by omega)]
    simp
  have hd : x.drop j = x[j]'(by omega) :: x.drop (j + 1) := List.drop_eq_getElem_cons (by omega)
  rw [addTo, List.set_append_right _ _ (by omega), hl, Nat.sub_self, addTo, List.take_add_one, hz, hd, List.set_cons_zero, List.append_assoc]
  rfl

set_option maxRecDepth 100000 in
set_option maxHeartbeats 600000 in
theorem mix_ws (tb : Nat) (s : W8) (b : ByteArray) (ws : List Nat) (HWS : Hid (schedTo b 64 = ws)) (w : World) (hs : s.Ok) (hb : b.size = 64) (ht : ∀ i, i < 64 → w.cell? ⟨tb, 3 + i, none⟩ = some (.int .u32 (kTab.getD i 0 : Nat))) (htl : tb < w.heap.size) :
    Calls Tryz.prog 118 #[.pointer (some ⟨tb, 0, none⟩), .agg (u32Cells s.list), .string b] w fun e w' => e = .returned (.agg (u32Cells ((shaTo s ws 64).add s).list)) ∧ Below w.heap.size w w' := by
  have HT := Lib.hid ht
  clear ht
  have hz8 := zero8
  have hz64 := zero64
  go_enter Tryz.func118, Tryz.ntmps118
  go_wp2_with fail
  refine (schedule_any b _ hb).mono ?_
  rw [HWS.out]
  have hwl : ws.length = 64 := by rw [← HWS.out, schedTo_length]
  rintro e w1 ⟨rfl, hb1⟩
  have hsz : (u32Cells ws).size = 64 := by rw [u32Cells_size, hwl]
  have HL := Lib.hid hwl
  clear hwl
  have HZ := Lib.hid hsz
  clear hsz
  have hS1 : Blk w1 w.heap.size 148 (u32Cells s.list) := Blk.below (Blk.alloc (Blk.new w _) _) hb1
  have HS1 := Lib.hid hS1
  have hW : w.heap.size + 2 ≤ w1.heap.size := by have := hb1.size; simp at this; omega
  clear hS1
  go_wp2_with (first
    | (refine list_store_row rfl 137 (.tmp 7) (.tmp 20) rfl w1.heap.size 137 (u32Cells zs64) _ rfl rfl (Blk.new _ _) (by rw [HZ.out]; kernel_rfl) (by rw [HZ.out]; rfl) (u32Cells_one _) ?_)
    | (refine wpList_load_row rfl 148 (.tmp 4) rfl w.heap.size rfl 148 (u32Cells s.list) (0, 0) _ (Blk.setRow_far (Blk.alloc HS1.out _) (by omega) _) Tryz.underlying148 rfl (by kernel_rfl) ?_)
    | (refine list_store_row rfl 148 (.tmp 8) (.tmp 21) rfl (w1.heap.size + 1) 148 (u32Cells zs8) (u32Cells s.list) rfl rfl (Blk.new_at _ (by simp)) (by kernel_rfl) (by rfl) (u32Cells_one _) ?_))
  obtain ⟨w3, hw3⟩ : ∃ w3, w3 = (((w1.alloc (.cells (u32Cells zs64) 137)).setRow w1.heap.size (u32Cells ws)).alloc (.cells (u32Cells zs8) 148)).setRow (w1.heap.size + 1) (u32Cells s.list) := ⟨_, rfl⟩
  rw [← hw3]
  have hA : Blk w3 w1.heap.size 137 (u32Cells ws) := by
    rw [hw3]; exact Blk.setRow_far (Blk.alloc (Blk.setRow_same (Blk.new w1 _) _) _) (by omega) _
  have hX : Blk w3 (w1.heap.size + 1) 148 (u32Cells s.list) := by
    rw [hw3]; exact Blk.setRow_same (Blk.new_at _ (by simp)) _
  have hb3 : Below w1.heap.size w1 w3 := by
    rw [hw3]; exact below_setRow ((below_setRow ((Below.refl _ _).alloc (Nat.le_refl _) _) (Nat.le_refl _) _).alloc (by simp) _) (by omega) _
  have hsz3 : w3.heap.size = w1.heap.size + 2 := by rw [hw3]; simp
  clear hw3
  have hbw : Below w.heap.size w w1 := ((((Below.refl w.heap.size w).alloc (Nat.le_refl _) (.cells (u32Cells s.list) 148)).alloc (by simp) (.cells (u32Cells zs8) 148)).trans (hb1.mono (by simp; omega)))
  have hbw3 : Below w.heap.size w w3 := hbw.trans (hb3.mono (by omega))
  have hS3 : Blk w3 w.heap.size 148 (u32Cells s.list) := Blk.below HS1.out hb3
  have hR3 : Blk w3 (w.heap.size + 1) 148 (u32Cells zs8) := Blk.below (Blk.below (Blk.new_at _ (by simp)) hb1) hb3
  have hT3 : ∀ i, i < 64 → w3.cell? ⟨tb, 3 + i, none⟩ = some (.int .u32 (kTab.getD i 0 : Nat)) := fun i hi => (hbw3.cell htl).trans (HT.out i hi)
  have H3 := Lib.hid (And.intro hA (And.intro hX (And.intro hS3 (And.intro hR3 hT3))))
  clear hA hX hS3 hR3 hT3 HS1 HT hb1 hb3 hbw hz8 hz64
  have hXA : w1.heap.size < w1.heap.size + 1 := Nat.lt_succ_self _
  have hX3 : w1.heap.size + 1 < w3.heap.size := by omega
  clear hsz3
  generalize w1.heap.size + 1 = X at *
  generalize w1.heap.size = A at *
  clear w1
  go_loopw [22] (fun i wr => ∃ k : Nat, k ≤ 64 ∧ i = .int .i64 k ∧ Blk wr X 148 (u32Cells (shaTo s ws k).list) ∧ Below X w3 wr) (fun i _ => 64 - (intOf i).toNat)
  case atStart => exact ⟨0, by omega, rfl, H3.out.2.1, Below.refl _ _⟩
  case round =>
    obtain ⟨k, hk, rfl, hblk, hbel⟩ := hrel
    obtain ⟨x, hx⟩ : ∃ x, shaTo s ws k = x := ⟨_, rfl⟩
    have hok := shaTo_ok s ws hs k
    rw [hx] at hblk hok
    have HX := Lib.hid hx
    clear hx
    by_cases hlt : k < 64
    · have c0 : wr.cell? ⟨X, 0, none⟩ = some (.int .u32 (x.a : Int)) := Blk.cell hblk 0
      have c1 : wr.cell? ⟨X, 1, none⟩ = some (.int .u32 (x.b : Int)) := Blk.cell hblk 1
      have c2 : wr.cell? ⟨X, 2, none⟩ = some (.int .u32 (x.c : Int)) := Blk.cell hblk 2
      have c3 : wr.cell? ⟨X, 3, none⟩ = some (.int .u32 (x.d : Int)) := Blk.cell hblk 3
      have c4 : wr.cell? ⟨X, 4, none⟩ = some (.int .u32 (x.e : Int)) := Blk.cell hblk 4
      have c5 : wr.cell? ⟨X, 5, none⟩ = some (.int .u32 (x.f : Int)) := Blk.cell hblk 5
      have c6 : wr.cell? ⟨X, 6, none⟩ = some (.int .u32 (x.g : Int)) := Blk.cell hblk 6
      have c7 : wr.cell? ⟨X, 7, none⟩ = some (.int .u32 (x.h : Int)) := Blk.cell hblk 7
      have ck : wr.cell? ⟨tb, 3 + k, none⟩ = some (.int .u32 (kTab.getD k 0 : Nat)) := (hbel.cell (by show tb < X; omega)).trans (H3.out.2.2.2.2 k hlt)
      have cw : wr.cell? ⟨A, k, none⟩ = some (.int .u32 (ws.getD k 0 : Nat)) := ((hbel.cell (by show A < X; omega)).trans (Blk.cell H3.out.1 k)).trans (u32Cells_get _ _ (by rw [HL.out]; omega))
      obtain ⟨kk, hkk⟩ : ∃ v, kTab.getD k 0 = v := ⟨_, rfl⟩
      obtain ⟨ww, hww⟩ : ∃ v, ws.getD k 0 = v := ⟨_, rfl⟩
      rw [hkk] at ck
      rw [hww] at cw
      have HK := Lib.hid (And.intro hkk hww)
      have HB := Lib.hid hblk
      clear hkk hww hblk
      obtain ⟨la, lb, lc, ld, le, lf, lg, lh⟩ := hok
      have HBB : Box _ := ⟨And.intro hs (And.intro hbw3 (And.intro hbel (And.intro HZ.out (And.intro HL.out (And.intro HWS.out H3.out)))))⟩
      clear hs hbw3 hbel hb HZ HL HWS H3
      go_wp2
      go_quiet (fail)
      go_wp2
      obtain ⟨w4, hw4⟩ : ∃ w4, w4 = wr.drewN nq := ⟨_, rfl⟩
      rw [← hw4]
      have c0 : w4.cell? ⟨X, 0, none⟩ = some (.int .u32 (x.a : Int)) := by rw [hw4]; exact c0
      have c1 : w4.cell? ⟨X, 1, none⟩ = some (.int .u32 (x.b : Int)) := by rw [hw4]; exact c1
      have c2 : w4.cell? ⟨X, 2, none⟩ = some (.int .u32 (x.c : Int)) := by rw [hw4]; exact c2
      have c3 : w4.cell? ⟨X, 3, none⟩ = some (.int .u32 (x.d : Int)) := by rw [hw4]; exact c3
      have c4 : w4.cell? ⟨X, 4, none⟩ = some (.int .u32 (x.e : Int)) := by rw [hw4]; exact c4
      have c5 : w4.cell? ⟨X, 5, none⟩ = some (.int .u32 (x.f : Int)) := by rw [hw4]; exact c5
      have c6 : w4.cell? ⟨X, 6, none⟩ = some (.int .u32 (x.g : Int)) := by rw [hw4]; exact c6
      have c7 : w4.cell? ⟨X, 7, none⟩ = some (.int .u32 (x.h : Int)) := by rw [hw4]; exact c7
      have ck : w4.cell? ⟨tb, 3 + k, none⟩ = some (.int .u32 (kk : Int)) := by rw [hw4]; exact ck
      have cw : w4.cell? ⟨A, k, none⟩ = some (.int .u32 (ww : Int)) := by rw [hw4]; exact cw
      have hbw4 : Below X wr w4 := by rw [hw4]; exact below_drewN (Below.refl _ _) _
      have HB4 : Blk w4 X 148 (u32Cells x.list) := by rw [hw4]; exact HB.out
      clear hw4
      go_quiet ((go_at_call 128; exact Calls.quiet_of_same (still_of (turned_any x.e 6 11 25 _ le (by omega) (by omega) (by omega)))))
      go_wp2
      rw [t1_int le lf lg]
      obtain ⟨T1, hT1⟩ : ∃ T1, shaT1 x kk ww = T1 := ⟨_, rfl⟩
      have lT1 : T1 < 4294967296 := by rw [← hT1]; exact Nat.mod_lt _ (by decide)
      rw [hT1]
      have HT1 : Box (shaT1 x kk ww = T1) := ⟨hT1⟩
      clear hT1 ck cw h
      obtain ⟨w5, hw5⟩ : ∃ w5, w5 = w4.drewN nq := ⟨_, rfl⟩
      rw [← hw5]
      have c0 : w5.cell? ⟨X, 0, none⟩ = some (.int .u32 (x.a : Int)) := by rw [hw5]; exact c0
      have c1 : w5.cell? ⟨X, 1, none⟩ = some (.int .u32 (x.b : Int)) := by rw [hw5]; exact c1
      have c2 : w5.cell? ⟨X, 2, none⟩ = some (.int .u32 (x.c : Int)) := by rw [hw5]; exact c2
      have c3 : w5.cell? ⟨X, 3, none⟩ = some (.int .u32 (x.d : Int)) := by rw [hw5]; exact c3
      have c4 : w5.cell? ⟨X, 4, none⟩ = some (.int .u32 (x.e : Int)) := by rw [hw5]; exact c4
      have c5 : w5.cell? ⟨X, 5, none⟩ = some (.int .u32 (x.f : Int)) := by rw [hw5]; exact c5
      have c6 : w5.cell? ⟨X, 6, none⟩ = some (.int .u32 (x.g : Int)) := by rw [hw5]; exact c6
      have c7 : w5.cell? ⟨X, 7, none⟩ = some (.int .u32 (x.h : Int)) := by rw [hw5]; exact c7
      have hbw5 : Below X wr w5 := by rw [hw5]; exact below_drewN hbw4 _
      have HB5 : Blk w5 X 148 (u32Cells x.list) := by rw [hw5]; exact HB4
      clear hw5
      clear HB4 hbw4
      go_quiet (fail)
      go_wp2_with fail
      obtain ⟨w6, hw6⟩ : ∃ w6, w6 = w5.drewN nq := ⟨_, rfl⟩
      rw [← hw6]
      have c0 : w6.cell? ⟨X, 0, none⟩ = some (.int .u32 (x.a : Int)) := by rw [hw6]; exact c0
      have c1 : w6.cell? ⟨X, 1, none⟩ = some (.int .u32 (x.b : Int)) := by rw [hw6]; exact c1
      have c2 : w6.cell? ⟨X, 2, none⟩ = some (.int .u32 (x.c : Int)) := by rw [hw6]; exact c2
      have c3 : w6.cell? ⟨X, 3, none⟩ = some (.int .u32 (x.d : Int)) := by rw [hw6]; exact c3
      have c4 : w6.cell? ⟨X, 4, none⟩ = some (.int .u32 (x.e : Int)) := by rw [hw6]; exact c4
      have c5 : w6.cell? ⟨X, 5, none⟩ = some (.int .u32 (x.f : Int)) := by rw [hw6]; exact c5
      have c6 : w6.cell? ⟨X, 6, none⟩ = some (.int .u32 (x.g : Int)) := by rw [hw6]; exact c6
      have c7 : w6.cell? ⟨X, 7, none⟩ = some (.int .u32 (x.h : Int)) := by rw [hw6]; exact c7
      have hbw6 : Below X wr w6 := by rw [hw6]; exact below_drewN hbw5 _
      have HB6 : Blk w6 X 148 (u32Cells x.list) := by rw [hw6]; exact HB5
      clear hw6
      clear HB5 hbw5
      refine (turned_any x.a 2 13 22 _ la (by omega) (by omega) (by omega)).mono ?_
      rintro e w7 ⟨rfl, rfl⟩
      have f0 : w6.frozen? ⟨X, 0, none⟩ = false := Blk.free HB6 0
      have f1 : w6.frozen? ⟨X, 1, none⟩ = false := Blk.free HB6 1
      have f2 : w6.frozen? ⟨X, 2, none⟩ = false := Blk.free HB6 2
      have f3 : w6.frozen? ⟨X, 3, none⟩ = false := Blk.free HB6 3
      have f4 : w6.frozen? ⟨X, 4, none⟩ = false := Blk.free HB6 4
      have f5 : w6.frozen? ⟨X, 5, none⟩ = false := Blk.free HB6 5
      have f6 : w6.frozen? ⟨X, 6, none⟩ = false := Blk.free HB6 6
      have f7 : w6.frozen? ⟨X, 7, none⟩ = false := Blk.free HB6 7
      go_wp2
      have e4 : ((x.d : Int) + (T1 : Int)) % 4294967296 = (((x.d + T1) % 4294967296 : Nat) : Int) := by omega
      rw [new_a la lb lc, e4]
      refine ⟨⟨k + 1, by omega, by go_num, ?_, ?_⟩, by simp [intOf]; omega⟩
      · have hst := eight_set HB6 ((T1 + shaT2 x) % 4294967296) x.a x.b x.c ((x.d + T1) % 4294967296) x.e x.f x.g
        have en : shaTo s ws (k + 1) = shaRound x kk ww := by rw [shaTo, HX.out, HK.out.1, HK.out.2]
        rw [en, shaRound, HT1.out]
        exact hst
      · have hb0 := (HBB.out.2.2.1).trans hbw6
        exact (((((((hb0.setCell (Nat.le_refl _) _).setCell (Nat.le_refl _) _).setCell (Nat.le_refl _) _).setCell (Nat.le_refl _) _).setCell (Nat.le_refl _) _).setCell (Nat.le_refl _) _).setCell (Nat.le_refl _) _).setCell (Nat.le_refl _) _
    · obtain rfl : k = 64 := by omega
      clear hlt
      have hS : Blk wr w.heap.size 148 (u32Cells s.list) := (hbel.block _ (by omega)).trans H3.out.2.2.1
      have hR : Blk wr (w.heap.size + 1) 148 (u32Cells zs8) := (hbel.block _ (by omega)).trans H3.out.2.2.2.1
      obtain ⟨wb, hwb⟩ : ∃ wb, wb = wr := ⟨_, rfl⟩
      have HBB : Box _ := ⟨And.intro hs (And.intro hbw3 (And.intro hbel (And.intro hS (And.intro hR (And.intro HX.out hok)))))⟩
      rw [← hwb] at hblk
      have HWB : Box _ := ⟨hwb⟩
      have hblk0 : Blk wb X 148 (u32Cells (addTo x.list s.list 0)) := by
        have : addTo x.list s.list 0 = x.list := by simp [addTo]
        rw [this]; exact hblk
      have HB0 : Box _ := ⟨hblk0⟩
      clear hs hbw3 hbel hS hR hok hb HZ HL HWS H3 hblk HX hwb hblk0
      go_wp2
      go_loopw [91] (fun i w2 => ∃ j : Nat, j ≤ 8 ∧ i = .int .i64 j ∧ Box (Blk w2 X 148 (u32Cells (addTo x.list s.list j))) ∧ Box (Below X wb w2)) (fun i _ => 8 - (intOf i).toNat)
      case atStart => exact ⟨0, by omega, rfl, by rw [← HWB.out]; exact HB0, ⟨by rw [HWB.out]; exact Below.refl _ _⟩⟩
      case round =>
        obtain ⟨j, hj, rfl, HBJ, HBJ2⟩ := hrel
        by_cases hlt : j < 8
        · have cx : wr.cell? ⟨X, j, none⟩ = some (.int .u32 (x.list.getD j 0 : Nat)) := by
            rw [Blk.cell HBJ.out j, u32Cells_get _ _ (by rw [addTo_length _ _ _ x.list_length s.list_length hj]; exact hlt), addTo_get _ _ _ x.list_length s.list_length hlt]
          have cs : wr.cell? ⟨w.heap.size, j, none⟩ = some (.int .u32 (s.list.getD j 0 : Nat)) := by
            have h1 : Blk wr w.heap.size 148 (u32Cells s.list) := (HBJ2.out.block _ (by omega)).trans (by rw [HWB.out]; exact HBB.out.2.2.2.1)
            rw [Blk.cell h1 j, u32Cells_get _ _ (by rw [s.list_length]; exact hlt)]
          have cf : wr.frozen? ⟨X, j, none⟩ = false := Blk.free HBJ.out j
          obtain ⟨u, hu⟩ : ∃ u, x.list.getD j 0 = u := ⟨_, rfl⟩
          obtain ⟨v, hv⟩ : ∃ v, s.list.getD j 0 = v := ⟨_, rfl⟩
          rw [hu] at cx
          rw [hv] at cs
          have HUV : Box _ := ⟨And.intro hu hv⟩
          clear hu hv
          go_wp2_with fail
          go_region
          all_goals
            go_wp2
            have e0 : ((u : Int) + (v : Int)) % 4294967296 = (((u + v) % 4294967296 : Nat) : Int) := by omega
            have hst := Blk.set HBJ.out j (.int .u32 (((u + v) % 4294967296 : Nat) : Int))
            rw [u32Cells_set, ← HUV.out.1, ← HUV.out.2, addTo_succ _ _ _ x.list_length s.list_length hlt, HUV.out.1, HUV.out.2] at hst
            rw [e0]
            exact ⟨⟨j + 1, by omega, by go_num, ⟨Blk.drew hst⟩, ⟨(HBJ2.out.setCell (Nat.le_refl _) _).drew⟩⟩, by simp [intOf]; omega⟩
        · obtain rfl : j = 8 := by omega
          have hfin : addTo x.list s.list 8 = (x.add s).list := rfl
          have HXX : Box (Blk wr X 148 (u32Cells (x.add s).list)) := ⟨by rw [← hfin]; exact HBJ.out⟩
          have HRR : Box (Blk wr (w.heap.size + 1) 148 (u32Cells zs8)) := ⟨(HBJ2.out.block _ (by omega)).trans (by rw [HWB.out]; exact HBB.out.2.2.2.2.1)⟩
          have hbb : Below w.heap.size w wr := by
            have h1 := HBB.out.2.2.1
            rw [← HWB.out] at h1
            exact HBB.out.2.1.trans ((h1.trans HBJ2.out).mono (by omega))
          have HFB : Box _ := ⟨hbb⟩
          have HXO : Box _ := ⟨HBB.out.2.2.2.2.2.1⟩
          clear hfin hbb HBJ HBJ2 HBB HB0 HWB
          obtain ⟨y, hy⟩ : ∃ y, (x.add s).list = y := ⟨_, rfl⟩
          have hyl : (u32Cells y).size = 8 := by rw [← hy, u32Cells_size]; rfl
          rw [hy] at HXX
          have HY : Box _ := ⟨And.intro hy hyl⟩
          clear hy hyl hlt
          go_wp2_with (first
            | (refine wpList_load_row rfl 148 (.tmp 8) rfl X rfl 148 (u32Cells y) (0, 0) _ HXX.out Tryz.underlying148 rfl (by rw [HY.out.2]; kernel_rfl) ?_)
            | (refine list_store_row rfl 148 (.tmp 6) (.tmp 103) rfl (w.heap.size + 1) 148 (u32Cells zs8) (u32Cells y) rfl rfl HRR.out (by rw [HY.out.2]; kernel_rfl) (by rw [HY.out.2]; rfl) (u32Cells_one _) ?_))
          refine bodyPost_ret (results_cell_row (P := Tryz.prog) Tryz.results118 _ _ (w.heap.size + 1) 148 (u32Cells y) (0, 0) _ rfl (Blk.setRow_same HRR.out _) Tryz.underlying148 rfl (by rw [HY.out.2]; kernel_rfl)) rfl ⟨?_, below_setRow HFB.out (by omega) _⟩
          rw [HXO.out, HY.out.1]
theorem mix_any (tb : Nat) (s : W8) (b : ByteArray) (w : World) (hs : s.Ok) (hb : b.size = 64) (ht : ∀ i, i < 64 → w.cell? ⟨tb, 3 + i, none⟩ = some (.int .u32 (kTab.getD i 0 : Nat))) (htl : tb < w.heap.size) :
    Calls Tryz.prog 118 #[.pointer (some ⟨tb, 0, none⟩), .agg (u32Cells s.list), .string b] w fun e w' => e = .returned (.agg (u32Cells (shaMix s b).list)) ∧ Below w.heap.size w w' :=
  mix_ws tb s b _ (Lib.hid rfl) w hs hb ht htl
end Go.Proofs.YtkcfbipnhnboaaaGreat
