/- Small lemmas of this session on worlds, blocks and byte strings; no function of the program is spoken of here. -/
import Derived.Test.YtdmdkkdkmmkalaaGreatProg
import Derived.WalkKit
import Derived.WalkSpells
import Derived.WalkLawsBesides
import Derived.Lib.Hide
import Derived.Lib.ConvBytes
import Derived.Deep.QuietTactic
import Derived.BigQuiet
import Derived.PlainAid
import Derived.Lib.MinMax
namespace Go.Proofs.YtdmdkkdkmmkalaaGreat
open Go.RowKit

/-! ### blocks that are known whole -/
/-- Block g of the world w holds just these cells, none frozen. -/
abbrev Blk (w : World) (g : Nat) (t : TypeId) (cs : Array Value) : Prop := w.heap[g]? = some (.cells cs t (0, 0))

theorem Blk.lt {w : World} {g : Nat} {o : Obj} (h : w.heap[g]? = some o) : g < w.heap.size := (Array.getElem?_eq_some_iff.1 h).1
theorem Blk.cell {w : World} {g : Nat} {t : TypeId} {cs : Array Value} (h : Blk w g t cs) (i : Nat) : w.cell? ⟨g, i, none⟩ = cs[i]? := by simp [World.cell?, h]
theorem Blk.free {w : World} {g : Nat} {t : TypeId} {cs : Array Value} (h : Blk w g t cs) (i : Nat) : w.frozen? ⟨g, i, none⟩ = false := by simp [World.frozen?, h]
theorem Blk.set {w : World} {g : Nat} {t : TypeId} {cs : Array Value} (h : Blk w g t cs) (i : Nat) (u : Value) : Blk (w.setCell ⟨g, i, none⟩ u) g t (cs.setIfInBounds i u) := by
  simp only [Blk, World.setCell, Array.getElem?_modify]; simp [h]
theorem Blk.far {w : World} {g : Nat} {o : Obj} (h : w.heap[g]? = some o) {p : Addr} (hp : g ≠ p.block) (u : Value) : (w.setCell p u).heap[g]? = some o := (Below.heap_setCell w p u g hp).trans h
theorem Blk.alloc {w : World} {g : Nat} {o : Obj} (h : w.heap[g]? = some o) (o' : Obj) : (w.alloc o').heap[g]? = some o := (Below.heap_alloc w o' g (Blk.lt h)).trans h
theorem Blk.drew {w : World} {g : Nat} {o : Obj} (h : w.heap[g]? = some o) : w.drew.heap[g]? = some o := h
theorem Blk.drewN {w : World} {g : Nat} {o : Obj} (h : w.heap[g]? = some o) (n : Nat) : (w.drewN n).heap[g]? = some o := h
theorem Blk.below {w w1 : World} {g : Nat} {o : Obj} (h : w.heap[g]? = some o) (hb : Below w.heap.size w w1) : w1.heap[g]? = some o := (hb.block g (Blk.lt h)).trans h
theorem Blk.new (w : World) (o : Obj) : (w.alloc o).heap[w.heap.size]? = some o := by show (w.heap.push o)[w.heap.size]? = _; simp
theorem below_drewN {B : Nat} {w W : World} (h : Below B w W) (n : Nat) : Below B w (W.drewN n) := ⟨h.os, h.tape, h.output, h.size, h.block⟩
theorem below_then {B : Nat} {w w1 w2 : World} (h : Below B w w1) (hB : B ≤ w1.heap.size) (k : Below w1.heap.size w1 w2) : Below B w w2 := h.trans (k.mono hB)
theorem bcell {W w1 : World} (hb : Below W.heap.size W w1) : (∀ b o, b < W.heap.size → w1.cell? ⟨b, o, none⟩ = W.cell? ⟨b, o, none⟩) ∧ (∀ b o, b < W.heap.size → w1.frozen? ⟨b, o, none⟩ = W.frozen? ⟨b, o, none⟩) :=
  ⟨fun b o h => hb.cell (p := ⟨b, o, none⟩) h, fun b o h => hb.frozen (p := ⟨b, o, none⟩) h⟩

theorem ret_int {k : IntKind} {a b : Int} (h : a = b) : Ending.returned (.int k a) = .returned (.int k b) := by rw [h]
theorem ret_str {a b : ByteArray} (h : a = b) : Ending.returned (.string a) = .returned (.string b) := by rw [h]
theorem ret_bool {a b : Bool} (h : a = b) : Ending.returned (.bool a) = .returned (.bool b) := by rw [h]

/-- Below 2 to the 64th (behind a name: the walk does not like great numerals). -/
def U64 (v : Nat) : Prop := v < 2 ^ 64

theorem U64.div {v : Nat} (h : U64 v) (k : Nat) : U64 (v / k) := Nat.lt_of_le_of_lt (Nat.div_le_self v k) h
theorem U64.of {v : Nat} (h : v < 4294967296) : U64 v := by unfold U64; omega
theorem u64_wrap {v : Nat} (h : U64 v) : IntKind.u64.wrap (v : Int) = v := IntWalk.u64_in _ (by unfold U64 at h; omega)
theorem u64_div256 {v : Nat} (h : U64 v) : IntKind.u64.wrap ((v : Int) / 256) = ((v / 256 : Nat) : Int) := by
  have := u64_wrap (U64.div h 256)
  rwa [Int.natCast_ediv] at this
theorem u64_and255 {v : Nat} (h : U64 v) : bits .and .u64 (v : Int) 255 = ((v % 256 : Nat) : Int) := by
  rw [show (255 : Int) = ((255 : Nat) : Int) from rfl, u64_and_nat v 255 (by unfold U64 at h; omega) (by omega)]
  have : v &&& 255 = v % 256 := Nat.and_two_pow_sub_one_eq_mod v 8
  rw [this]

theorem u64_byte {x c : Nat} (hx : x < 2 ^ 56) (hc : c < 256) : bits .or .u64 (IntKind.u64.wrap ((x : Int) * 256)) (IntKind.u64.wrap (c : Int)) = ((x * 256 + c : Nat) : Int) := by
  have h1 : IntKind.u64.wrap ((x : Int) * 256) = ((x * 256 : Nat) : Int) := u64_wrap (v := x * 256) (by unfold U64; omega)
  rw [h1, u64_wrap (v := c) (by unfold U64; omega), u64_or_nat _ _ (by omega) (by omega)]
  have := Nat.shiftLeft_add_eq_or_of_lt (i := 8) hc x
  rw [Nat.shiftLeft_eq] at this
  rw [this]
theorem u64_byte_plain {x c : Nat} (hx : x < 2 ^ 56) (hc : c < 256) : IntKind.u64.wrap (IntKind.u64.wrap ((x : Int) * 256) + IntKind.u64.wrap (c : Int)) = ((x * 256 + c : Nat) : Int) := by
  have h1 : IntKind.u64.wrap ((x : Int) * 256) = ((x * 256 : Nat) : Int) := u64_wrap (v := x * 256) (by unfold U64; omega)
  rw [h1, u64_wrap (v := c) (by unfold U64; omega)]
  exact u64_wrap (v := x * 256 + c) (by unfold U64; omega)

/-! ### bytes -/
/-- The byte cells of a list of numbers. -/
def byteCells (l : List Nat) : Array Value := (l.map fun x : Nat => Value.int .u8 (x : Int)).toArray
/-- The string of a list of numbers below 256. -/
def strOf (l : List Nat) : ByteArray := ⟨(l.map UInt8.ofNat).toArray⟩
theorem strOf_size (l : List Nat) : (strOf l).size = l.length := by simp [strOf, ByteArray.size]
theorem byteCells_size (l : List Nat) : (byteCells l).size = l.length := by simp [byteCells]
theorem byteCells_zero (n : Nat) : byteCells (List.replicate n 0) = Array.replicate n (.int .u8 0) := by simp [byteCells]
theorem byteCells_get (l : List Nat) (i : Nat) (h : i < l.length) : (byteCells l)[i]? = some (.int .u8 (l[i] : Int)) := by simp [byteCells, h]
theorem byteCells_set (l : List Nat) (i x : Nat) : (byteCells l).setIfInBounds i (.int .u8 (x : Int)) = byteCells (l.set i x) := by
  apply Array.ext'; simp [byteCells, List.map_set]

theorem strNe {a b : ByteArray} (h : ¬ a = b) : (a.toList == b.toList) = false := by
  rw [ByteArray.toList_eq, ByteArray.toList_eq]
  simp only [beq_eq_false_iff_ne, ne_eq]
  intro e
  exact h (ByteArray.ext (Array.ext' e))
theorem strBeq (a b : ByteArray) : (a.toList == b.toList) = decide (a = b) := by
  by_cases h : a = b
  · subst h; simp
  · rw [strNe h]; simp [h]
theorem take_snoc (s : ByteArray) (k : Nat) (h : k < s.size) : s.data.toList.take (k + 1) = s.data.toList.take k ++ [s.data.toList.getD k 0] := by
  have h' : k < s.data.toList.length := by simpa using h
  rw [List.take_succ_eq_append_getElem h', List.getD_eq_getElem?_getD, List.getElem?_eq_getElem h']
  rfl
theorem take_all (s : ByteArray) : s.data.toList.take s.size = s.data.toList := List.take_of_length_le (by simp)
theorem getD_get (s : ByteArray) (k : Nat) (h : k < s.size) : s.data.toList.getD k 0 = s[k] := by
  have h' : k < s.data.toList.length := by simpa using h
  rw [List.getD_eq_getElem?_getD, List.getElem?_eq_getElem h']
  rfl
theorem extract_all (s : ByteArray) : s.extract 0 s.size = s := ByteArray.extract_zero_size
theorem bytes_below {B : Nat} {w W : World} (h : Below B w W) (hB : B ≤ W.heap.size) (e : TypeId) (s : ByteArray) : Below B w (Lib.bytesWorld W e s) :=
  h.trans ⟨rfl, rfl, rfl, by rw [Lib.bytesWorld_size]; omega, fun k hk => Lib.bytesWorld_at_old W e s k (by omega)⟩

/-- make of n whole numbers. -/
theorem run_make_ints {P : Program} (t e : TypeId) (k : IntKind) (bytes : Nat) (ht : P.underlying t = some (.slice e)) (hinfo : (P.info? e).map (fun i => (i.zero, i.size, i.bytes)) = some (some (.int k 0), 1, bytes)) (hb : bytes ≤ 16) (n : Nat) (hn : n ≤ 1099511627776) (w : World) :
    (Instr.makeSlice t (.int .i64 (n : Int)) (.int .i64 (n : Int))).run P w = .ok (.slice (some ⟨w.heap.size, 0, none⟩) n n) (w.alloc (.cells (List.replicate n (.int k 0)).toArray e)) := by
  obtain ⟨i0, hi, hz0, hz1, hz2⟩ := info_parts hinfo
  have h1 : (i0.bytes : Int) * (n : Int) ≤ 281474976710656 := by
    have : i0.bytes * n ≤ 16 * 1099511627776 := Nat.mul_le_mul (by omega) hn
    have : ((i0.bytes * n : Nat) : Int) ≤ 281474976710656 := by omega
    rwa [Int.natCast_mul] at this
  have h := run_make (P := P) w t e i0 (.int k 0) ht hi hz0 .i64 .i64 n n (by omega) (by omega) h1 (by omega)
  rw [h, hz1]
  simp only [Int.toNat_natCast, Nat.mul_one]
  congr 3
  apply Array.ext'
  rw [show (Value.int k 0).cells = #[.int k 0] from rfl, toList_madeCells_one]

/-- string(b), of a block of bytes that is known whole. -/
theorem run_string_of_blk {P : Program} (src dst e : TypeId) (hs : P.underlying src = some (.slice e)) (he : P.underlying e = some (.int .u8)) (hd : P.underlying dst = some .string) {w : World} {g : Nat} {t : TypeId} {l : List Nat} (h : Blk w g t (byteCells l)) (n c : Nat) (hn : n = l.length) :
    (convert src dst (.slice (some ⟨g, 0, none⟩) n c)).run P w = .ok (.string (strOf l)) w := by
  subst hn
  rw [run_convert_bytes_arg w src e hs he g 0 l.length c (l.map fun x : Nat => (x : Int)) (by simp) (by
    intro i hi
    rw [Nat.zero_add, Blk.cell h, byteCells_get _ _ hi]
    simp [hi]) dst hd]
  congr 2
  simp only [strOfNums, strOf, List.map_map]
  congr 2
end Go.Proofs.YtdmdkkdkmmkalaaGreat
