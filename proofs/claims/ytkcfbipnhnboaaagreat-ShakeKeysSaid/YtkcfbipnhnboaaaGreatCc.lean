/- strings.Builder: WriteString (walked here: the shelf did not lay it over this program), String; strings.Clone. Package digest: Digest.add. Package digest: Digest.add, the first time. Package digest: Digest.Add of a new digest, Digest.Sum, Sum. Package digest: Digest.Sum. Package digest: Sum is SHA-256. Package octet: Xor. Package mac: Of is HMAC. Package derive: Expand to 32 bytes, Key; ratchet: Next. sync/atomic.Int64. mac.Same: are two strings alike? Package ratchet: Session. -/
import Derived.Test.YtkcfbipnhnboaaaGreatCb
import Derived.Test.YtkcfbipnhnboaaaGreatShelf

namespace Go.Proofs.YtkcfbipnhnboaaaGreat
open Go.RowKit

theorem sizeBuilder : (Tryz.prog.info? 158).map (·.size) = some 2 := by kernel_rfl
theorem liesBuilder : liesAt Tryz.prog Tryz.prog.depth 158 (2 / Tryz.prog.cellsOf 158) 0 158 1 = true := by kernel_rfl

set_option maxHeartbeats 1000000 in
set_option maxRecDepth 100000 in
theorem copyCheck_used (b : Nat) (w : World) (h0 : w.cell? ⟨b, 0, none⟩ = some (.pointer (some ⟨b, 0, none⟩))) :
    Calls Tryz.prog 116 #[.pointer (some ⟨b, 0, none⟩)] w fun e w' => e = .returned (.tuple #[]) ∧ w' = w := by
  obtain ⟨j, hj, _⟩ := Option.map_eq_some_iff.1 sizeBuilder
  go_enter Tryz.func116, Tryz.ntmps116
  go_wp2
  try (rw [Lib.run_neq_ptr_same w _ Tryz.underlying156 hj]; go_wp2)
  go_end0
  exact ⟨rfl, rfl⟩

set_option maxHeartbeats 1000000 in
set_option maxRecDepth 100000 in
theorem copyCheck_fresh (b : Nat) (w : World) (h0 : w.cell? ⟨b, 0, none⟩ = some (.pointer none)) (hsh : w.shape? b = some (158, 2)) (hfz : w.frozen? ⟨b, 0, none⟩ = false) :
    Calls Tryz.prog 116 #[.pointer (some ⟨b, 0, none⟩)] w fun e w' => e = .returned (.tuple #[]) ∧ w' = w.setCell ⟨b, 0, none⟩ (.pointer (some ⟨b, 0, none⟩)) := by
  obtain ⟨j, hj, hjs⟩ := Option.map_eq_some_iff.1 sizeBuilder
  go_enter Tryz.func116, Tryz.ntmps116
  go_wp2
  rw [Lib.run_to_unsafe w ⟨b, 0, none⟩ Tryz.underlying156 Tryz.underlying183 hj (by rw [hjs]; decide) hsh (Nat.zero_lt_succ 1)]
  simp only [Result.andThen]
  rw [Oper.upon_value]
  go_wp2
  rw [run_callFunc_extern Tryz.func125 (by kernel_rfl) (by kernel_rfl) (by kernel_rfl) (e := Extern.AbiNoEscape.same) (by kernel_rfl)]
  rw [Lib.run_noEscape]
  simp only [Result.andThen]
  rw [Oper.upon_value]
  go_wp2
  rw [Lib.run_from_unsafe w ⟨b, 0, none⟩ Tryz.underlying183 Tryz.underlying156 hj hsh liesBuilder]
  simp only [Result.andThen]
  rw [Oper.upon_value]
  go_wp2
  go_end0
  exact ⟨rfl, rfl⟩
theorem copyCheck_any (B b : Nat) (bs : List Value) (w : World) (h : Lib.IsBuilder 158 5 B b bs w) :
    Calls Tryz.prog 116 #[.pointer (some ⟨b, 0, none⟩)] w fun e w' => e = .returned (.tuple #[]) ∧ (Lib.BuilderAt 158 5 B b (.pointer (some ⟨b, 0, none⟩)) bs w' ∧ Below B w w') := by
  rcases h with h | h
  · refine (copyCheck_fresh b w h.cell0 h.shape h.frozen0).mono ?_
    rintro e w' ⟨rfl, rfl⟩
    exact ⟨rfl, h.used _, (Below.refl B w).setCell (p := ⟨b, 0, none⟩) h.1 _⟩
  · refine (copyCheck_used b w h.cell0).mono ?_
    rintro e w' ⟨rfl, rfl⟩
    exact ⟨rfl, h, Below.refl B _⟩

set_option maxHeartbeats 1000000 in
set_option maxRecDepth 100000 in
theorem writeString_any (B b : Nat) (bs : List Value) (s : ByteArray) (w : World) (h : Lib.IsBuilder 158 5 B b bs w) (hlen : bs.length + s.size ≤ 140737488355328) (hBw : B ≤ w.heap.size) :
    Calls Tryz.prog 101 #[.pointer (some ⟨b, 0, none⟩), .string s] w fun e w' => e = .returned (.tuple #[.int .i64 s.size, .nilIface]) ∧ (Lib.BuilderAt 158 5 B b (.pointer (some ⟨b, 0, none⟩)) (bs ++ Lib.strCells s) w' ∧ Below B w w') := by
  obtain ⟨i0, hi, hz0, hz1, hz2⟩ := info_parts info_u8
  go_enter Tryz.func101, Tryz.ntmps101
  go_wp2_with fail
  refine (copyCheck_any B b bs _ h).mono ?_
  rintro e w1 ⟨rfl, h1, hb1⟩
  obtain ⟨hB, v, hbk, hown, hne⟩ := h1
  have c0 : w1.cell? ⟨b, 0, none⟩ = some (.pointer (some ⟨b, 0, none⟩)) := by rw [Lib.cell_of_heap hbk]; rfl
  have c1 : w1.cell? ⟨b, 1, none⟩ = some v := by rw [Lib.cell_of_heap hbk]; rfl
  go_wp2_with (refine Lib.wpList_append_own_string _ rfl _ _ 42 9 rfl B 5 i0 Tryz.underlying42 Tryz.underlying9 hi hz0 hz1 hz2 _ _ _ rfl hown s rfl ?c3 ?c4 ?c5 ?_)
  case c3 => unfold maxLen; omega
  case c4 => omega
  case c5 => have := hb1.size; omega
  intro v' w2 hown' hgrow _
  have hlt : b < w1.heap.size := by
    rcases Nat.lt_or_ge b w1.heap.size with h' | h'
    · exact h'
    · simp [Array.getElem?_eq_none h'] at hbk
  have hb2 : w2.heap[b]? = some (.cells #[.pointer (some ⟨b, 0, none⟩), v] 158 (0, 0)) := by
    rw [hgrow.block b hlt (fun e => hne e.symm)]
    exact hbk
  have d0 : w2.cell? ⟨b, 0, none⟩ = some (.pointer (some ⟨b, 0, none⟩)) := by rw [Lib.cell_of_heap hb2]; rfl
  have d1 : w2.cell? ⟨b, 1, none⟩ = some v := by rw [Lib.cell_of_heap hb2]; rfl
  have f1 : w2.frozen? ⟨b, 1, none⟩ = false := Lib.frozen_of_heap hb2 1
  obtain ⟨ao, n', cap, rfl⟩ : ∃ ao n' cap, v' = .slice ao n' cap := by
    rcases hown'.2 with ⟨hv, _⟩ | ⟨g, cap, cur, hv, _⟩
    · exact ⟨_, _, _, hv⟩
    · exact ⟨_, _, _, hv⟩
  go_wp2
  go_ret2
  refine ⟨rfl, ?_, ?_⟩
  · exact Lib.BuilderAt.put (T := 158) (e := 5) hB hb2 (bs' := bs ++ Lib.strCells s) (by simpa [Lib.strCells_length] using hown') (by decide)
  · exact (hb1.grown hgrow (by have := hb1.size; omega) (fun k hk => (hown.lt k hk).1)).setCell (p := ⟨b, 1, none⟩) hB _

set_option maxHeartbeats 1000000 in
set_option maxRecDepth 100000 in
theorem clone_any (s : ByteArray) (w : World) (hlim : s.size ≤ 281474976710656) : Calls Tryz.prog 58 #[.string s] w fun e w' => e = .returned (.string s) ∧ Below w.heap.size w w' := by
  go_enter Tryz.func58, Tryz.ntmps58
  go_wp2_with fail
  refine (Tryz.stringslite_Clone s _ hlim).mono ?_
  rintro e w1 ⟨rfl, hb⟩
  go_wp2
  go_ret
  exact ⟨rfl, hb⟩
end Go.Proofs.YtkcfbipnhnboaaaGreat

namespace Go.Proofs.YtkcfbipnhnboaaaGreat
open Go.RowKit

/-- A digest's cells. -/
def digC (g : Bool) (s : W8) (r : ByteArray) (n : Nat) : Array Value := #[.bool g, .int .u32 (s.a : Int), .int .u32 (s.b : Int), .int .u32 (s.c : Int), .int .u32 (s.d : Int), .int .u32 (s.e : Int), .int .u32 (s.f : Int), .int .u32 (s.g : Int), .int .u32 (s.h : Int), .string r, .int .i64 (n : Int)]
theorem W8.cells (s : W8) : u32Cells s.list = #[.int .u32 (s.a : Int), .int .u32 (s.b : Int), .int .u32 (s.c : Int), .int .u32 (s.d : Int), .int .u32 (s.e : Int), .int .u32 (s.f : Int), .int .u32 (s.g : Int), .int .u32 (s.h : Int)] := rfl
def strSize : Value → Nat
  | .string s => s.size
  | _ => 0
theorem ext_head {m : ByteArray} {k : Nat} (h : 64 * k + 64 ≤ m.size) : (m.extract (64 * k) m.size).extract 0 64 = m.extract (64 * k) (64 * k + 64) := by
  rw [ByteArray.extract_extract]; congr 1; omega
theorem ext_tail {m : ByteArray} {k : Nat} (h : 64 * k + 64 ≤ m.size) : (m.extract (64 * k) m.size).extract 64 (m.size - 64 * k) = m.extract (64 * (k + 1)) m.size := by
  rw [ByteArray.extract_extract]; congr 1; omega
theorem dig_set8 {w : World} {db : Nat} {t : TypeId} {g : Bool} {y : W8} {r : ByteArray} {N : Nat} (h : Blk w db t (digC g y r N)) (z : W8) :
    Blk ((((((((w.setCell ⟨db, 1, none⟩ (.int .u32 (z.a : Int))).setCell ⟨db, 2, none⟩ (.int .u32 (z.b : Int))).setCell ⟨db, 3, none⟩ (.int .u32 (z.c : Int))).setCell ⟨db, 4, none⟩ (.int .u32 (z.d : Int))).setCell ⟨db, 5, none⟩ (.int .u32 (z.e : Int))).setCell ⟨db, 6, none⟩ (.int .u32 (z.f : Int))).setCell ⟨db, 7, none⟩ (.int .u32 (z.g : Int))).setCell ⟨db, 8, none⟩ (.int .u32 (z.h : Int))) db t (digC g z r N) := by
  have hst := (Blk.set (Blk.set (Blk.set (Blk.set (Blk.set (Blk.set (Blk.set (Blk.set h 1 (.int .u32 (z.a : Int))) 2 (.int .u32 (z.b : Int))) 3 (.int .u32 (z.c : Int))) 4 (.int .u32 (z.d : Int))) 5 (.int .u32 (z.e : Int))) 6 (.int .u32 (z.f : Int))) 7 (.int .u32 (z.g : Int))) 8 (.int .u32 (z.h : Int)))
  simp only [digC, List.setIfInBounds_toArray, List.set_cons_succ, List.set_cons_zero] at hst ⊢
  exact hst
theorem set8_grown (w : World) (db : Nat) (z : W8) : w.grownBy ((((((((w.setCell ⟨db, 1, none⟩ (.int .u32 (z.a : Int))).setCell ⟨db, 2, none⟩ (.int .u32 (z.b : Int))).setCell ⟨db, 3, none⟩ (.int .u32 (z.c : Int))).setCell ⟨db, 4, none⟩ (.int .u32 (z.d : Int))).setCell ⟨db, 5, none⟩ (.int .u32 (z.e : Int))).setCell ⟨db, 6, none⟩ (.int .u32 (z.f : Int))).setCell ⟨db, 7, none⟩ (.int .u32 (z.g : Int))).setCell ⟨db, 8, none⟩ (.int .u32 (z.h : Int))) (some db) :=
  grown_set_more (grown_set_more (grown_set_more (grown_set_more (grown_set_more (grown_set_more (grown_set_more (grown_set_more (grown_refl w (some db)) 1 _) 2 _) 3 _) 4 _) 5 _) 6 _) 7 _) 8 _

set_option maxHeartbeats 1000000 in
set_option maxRecDepth 100000 in
/-- The part behind the beginning. -/
theorem addOn_any (db tb : Nat) (s : W8) (r b : ByteArray) (n : Nat) (w : World) (hs : s.Ok) (hdt : db ≠ tb) (hsz : r.size + b.size ≤ 1000000000) (hn : n ≤ 1000000000)
    (hd : Blk w db 150 (digC true s r n)) (ht : Blk w tb 166 (tab1 (.int .u32 1) (.int .i32 0))) :
    Calls Tryz.prog 106 #[.pointer (some ⟨db, 0, none⟩), .pointer (some ⟨tb, 0, none⟩), .string b] w fun e w' => e = .returned (.tuple #[]) ∧
      Blk w' db 150 (digC true (shaBlocks s (r ++ b) ((r ++ b).size / 64)) ((r ++ b).extract (64 * ((r ++ b).size / 64)) (r ++ b).size) (n + b.size)) ∧ w.grownBy w' (some db) := by
  have c0 : w.cell? ⟨db, 0, none⟩ = some (.bool true) := Blk.cell hd 0
  have c9 : w.cell? ⟨db, 9, none⟩ = some (.string r) := Blk.cell hd 9
  have c10 : w.cell? ⟨db, 10, none⟩ = some (.int .i64 (n : Int)) := Blk.cell hd 10
  have f10 : w.frozen? ⟨db, 10, none⟩ = false := Blk.free hd 10
  have HD : Box _ := ⟨And.intro hd (And.intro ht hs)⟩
  clear hd ht hs
  obtain ⟨m, hm⟩ : ∃ m, r ++ b = m := ⟨_, rfl⟩
  have hms : m.size = r.size + b.size := by rw [← hm, ByteArray.size_append]
  go_enter Tryz.func106, Tryz.ntmps106
  go_wp2
  obtain ⟨wa, hwa⟩ : ∃ wa, wa = w.setCell ⟨db, 10, none⟩ (.int .i64 ((n : Int) + (b.size : Int))) := ⟨_, rfl⟩
  have e10 : (n : Int) + (b.size : Int) = ((n + b.size : Nat) : Int) := by omega
  rw [← hwa]
  have hda : Blk wa db 150 (digC true s r (n + b.size)) := by rw [hwa, e10]; exact Blk.set HD.out.1 10 _
  have hga : w.grownBy wa (some db) := by rw [hwa]; exact grown_set w ⟨db, 10, none⟩ _
  have HA : Box _ := ⟨And.intro hda hga⟩
  obtain ⟨N, hN⟩ : ∃ N, n + b.size = N := ⟨_, rfl⟩
  rw [hN] at HA
  have HN : Box _ := ⟨And.intro hN hm⟩
  have hst0 : r ++ b = m.extract (64 * 0) m.size := by rw [hm]; simp
  have HST : Box _ := ⟨hst0⟩
  clear hwa hda hga c0 c9 c10 f10 e10 hst0 hm hN
  go_loopw [2] (fun x wr => ∃ k : Nat, 64 * k ≤ m.size ∧ x = .string (m.extract (64 * k) m.size) ∧ Box (Blk wr db 150 (digC true (shaBlocks s m k) r N)) ∧ Box (w.grownBy wr (some db))) (fun x _ => strSize x)
  case atStart => exact ⟨0, by omega, by simp, ⟨HA.out.1⟩, ⟨HA.out.2⟩⟩
  case round =>
    obtain ⟨k, hk, hxv, HK, HG⟩ := hrel
    obtain ⟨x, hx⟩ : ∃ x, m.extract (64 * k) m.size = x := ⟨_, rfl⟩
    have hxs : x.size = m.size - 64 * k := by rw [← hx, ByteArray.size_extract]; omega
    rw [hx] at hxv
    subst hxv
    have HXX : Box _ := ⟨hx⟩
    clear hx
    by_cases hlt : 64 * k + 64 ≤ m.size
    · obtain ⟨y, hy⟩ : ∃ y, shaBlocks s m k = y := ⟨_, rfl⟩
      have hyo : y.Ok := by rw [← hy]; exact shaBlocks_ok s m HD.out.2.2 k
      rw [hy] at HK
      have HY : Box _ := ⟨And.intro hy hyo⟩
      have c1 : wr.cell? ⟨db, 1, none⟩ = some (.int .u32 (y.a : Int)) := Blk.cell HK.out 1
      have c2 : wr.cell? ⟨db, 2, none⟩ = some (.int .u32 (y.b : Int)) := Blk.cell HK.out 2
      have c3 : wr.cell? ⟨db, 3, none⟩ = some (.int .u32 (y.c : Int)) := Blk.cell HK.out 3
      have c4 : wr.cell? ⟨db, 4, none⟩ = some (.int .u32 (y.d : Int)) := Blk.cell HK.out 4
      have c5 : wr.cell? ⟨db, 5, none⟩ = some (.int .u32 (y.e : Int)) := Blk.cell HK.out 5
      have c6 : wr.cell? ⟨db, 6, none⟩ = some (.int .u32 (y.f : Int)) := Blk.cell HK.out 6
      have c7 : wr.cell? ⟨db, 7, none⟩ = some (.int .u32 (y.g : Int)) := Blk.cell HK.out 7
      have c8 : wr.cell? ⟨db, 8, none⟩ = some (.int .u32 (y.h : Int)) := Blk.cell HK.out 8
      clear hy hyo
      go_wp2_with fail
      have htk : ∀ i, i < 64 → wr.drew.cell? ⟨tb, 3 + i, none⟩ = some (.int .u32 (kTab.getD i 0 : Nat)) := by
        intro i hi
        have hbt : wr.heap[tb]? = some (.cells (tab1 (.int .u32 1) (.int .i32 0)) 166 (0, 0)) := (HG.out.block tb (Blk.lt HD.out.2.1) (fun e => hdt (Option.some.inj e).symm)).trans HD.out.2.1
        exact (Blk.cell (Blk.drew hbt) (3 + i)).trans (tab1_k _ _ i hi)
      have htl : tb < wr.drew.heap.size := Nat.lt_of_lt_of_le (Blk.lt HD.out.2.1) HG.out.size
      have hbs : (x.extract 0 64).size = 64 := by rw [ByteArray.size_extract]; omega
      obtain ⟨xb, hxb⟩ : ∃ xb, x.extract 0 64 = xb := ⟨_, rfl⟩
      rw [hxb] at hbs
      have hmix := mix_any tb y xb wr.drew HY.out.2 hbs htk htl
      obtain ⟨z, hz⟩ : ∃ z, shaMix y xb = z := ⟨_, rfl⟩
      rw [hz, W8.cells, W8.cells] at hmix
      have HMX : Box _ := ⟨hmix⟩
      have HZ : Box _ := ⟨And.intro hz hxb⟩
      clear hmix hz htk htl hbs
      go_region_law (first | (go_simp; go_at_call 118; refine HMX.out.mono ?_; rintro e w2 ⟨rfl, hb2⟩; have HB2 : Box _ := ⟨hb2⟩; have HK2 : Box (Blk w2 db 150 (digC true y r N)) := ⟨Blk.below (Blk.drew HK.out) hb2⟩; have d1 : w2.cell? ⟨db, 1, none⟩ = some (.int .u32 (y.a : Int)) := Blk.cell HK2.out 1; have f1 : w2.frozen? ⟨db, 1, none⟩ = false := Blk.free HK2.out 1; have d2 : w2.cell? ⟨db, 2, none⟩ = some (.int .u32 (y.b : Int)) := Blk.cell HK2.out 2; have f2 : w2.frozen? ⟨db, 2, none⟩ = false := Blk.free HK2.out 2; have d3 : w2.cell? ⟨db, 3, none⟩ = some (.int .u32 (y.c : Int)) := Blk.cell HK2.out 3; have f3 : w2.frozen? ⟨db, 3, none⟩ = false := Blk.free HK2.out 3; have d4 : w2.cell? ⟨db, 4, none⟩ = some (.int .u32 (y.d : Int)) := Blk.cell HK2.out 4; have f4 : w2.frozen? ⟨db, 4, none⟩ = false := Blk.free HK2.out 4; have d5 : w2.cell? ⟨db, 5, none⟩ = some (.int .u32 (y.e : Int)) := Blk.cell HK2.out 5; have f5 : w2.frozen? ⟨db, 5, none⟩ = false := Blk.free HK2.out 5; have d6 : w2.cell? ⟨db, 6, none⟩ = some (.int .u32 (y.f : Int)) := Blk.cell HK2.out 6; have f6 : w2.frozen? ⟨db, 6, none⟩ = false := Blk.free HK2.out 6; have d7 : w2.cell? ⟨db, 7, none⟩ = some (.int .u32 (y.g : Int)) := Blk.cell HK2.out 7; have f7 : w2.frozen? ⟨db, 7, none⟩ = false := Blk.free HK2.out 7; have d8 : w2.cell? ⟨db, 8, none⟩ = some (.int .u32 (y.h : Int)) := Blk.cell HK2.out 8; have f8 : w2.frozen? ⟨db, 8, none⟩ = false := Blk.free HK2.out 8))
      have h3 := dig_set8 HK2.out z
      have g3 := set8_grown w2 db z
      obtain ⟨w3, hw3⟩ : ∃ w3, w3 = ((((((((w2.setCell ⟨db, 1, none⟩ (.int .u32 (z.a : Int))).setCell ⟨db, 2, none⟩ (.int .u32 (z.b : Int))).setCell ⟨db, 3, none⟩ (.int .u32 (z.c : Int))).setCell ⟨db, 4, none⟩ (.int .u32 (z.d : Int))).setCell ⟨db, 5, none⟩ (.int .u32 (z.e : Int))).setCell ⟨db, 6, none⟩ (.int .u32 (z.f : Int))).setCell ⟨db, 7, none⟩ (.int .u32 (z.g : Int))).setCell ⟨db, 8, none⟩ (.int .u32 (z.h : Int))) := ⟨_, rfl⟩
      rw [← hw3] at h3 g3 ⊢
      have H3 : Box _ := ⟨And.intro h3 g3⟩
      clear hw3 h3 g3 HMX
      go_wp2
      have hsx : strSize (.string x) = m.size - 64 * k := hxs
      have hxt : x.extract 64 (r.size + b.size - 64 * k) = m.extract (64 * (k + 1)) m.size := by
        rw [← ext_tail hlt, HXX.out, hms]
      refine ⟨⟨k + 1, by omega, by rw [hxt], ⟨?_⟩, ⟨?_⟩⟩, ?_⟩
      · rw [shaBlocks, HY.out.1, ← ext_head hlt, HXX.out, HZ.out.2, HZ.out.1]
        exact H3.out.1
      · have hgd : wr.grownBy w2 none := ⟨HB2.out.os, HB2.out.tape, HB2.out.output, HB2.out.size, fun q hq _ => HB2.out.block q hq⟩
        exact grown_trans (grown_trans HG.out hgd (by simp)) H3.out.2 (fun q hq => .inl hq)
      · show (x.extract 64 (r.size + b.size - 64 * k)).size < x.size
        rw [ByteArray.size_extract]; omega
    · have hk64 : m.size / 64 = k := by omega
      have c9 : wr.cell? ⟨db, 9, none⟩ = some (.string r) := Blk.cell HK.out 9
      go_wp2_with fail
      refine (clone_any x _ (by omega)).mono ?_
      rintro e w2 ⟨rfl, hb2⟩
      have HK2 : Box _ := ⟨Blk.below HK.out hb2⟩
      have c9 : w2.cell? ⟨db, 9, none⟩ = some (.string r) := Blk.cell HK2.out 9
      have f9 : w2.frozen? ⟨db, 9, none⟩ = false := Blk.free HK2.out 9
      go_wp2
      go_end0
      refine ⟨rfl, ?_, grown_set_more (grown_trans HG.out (grown_below hb2 none) (by simp)) 9 _⟩
      have := Blk.set HK2.out 9 (.string x)
      rw [HN.out.2, hk64, HXX.out, HN.out.1]
      exact this
end Go.Proofs.YtkcfbipnhnboaaaGreat

namespace Go.Proofs.YtkcfbipnhnboaaaGreat
open Go.RowKit

set_option maxHeartbeats 1000000 in
set_option maxRecDepth 100000 in
/-- The first bytes. -/
theorem addNew_any (db tb : Nat) (s : W8) (r b : ByteArray) (n : Nat) (w : World) (hdt : db ≠ tb) (hsz : r.size + b.size ≤ 1000000000) (hn : n ≤ 1000000000)
    (hd : Blk w db 150 (digC false s r n)) (ht : Blk w tb 166 (tab1 (.int .u32 1) (.int .i32 0))) :
    Calls Tryz.prog 106 #[.pointer (some ⟨db, 0, none⟩), .pointer (some ⟨tb, 0, none⟩), .string b] w fun e w' => e = .returned (.tuple #[]) ∧
      Blk w' db 150 (digC true (shaBlocks hFirst (r ++ b) ((r ++ b).size / 64)) ((r ++ b).extract (64 * ((r ++ b).size / 64)) (r ++ b).size) (n + b.size)) ∧ w.grownBy w' (some db) := by
  have c0 : w.cell? ⟨db, 0, none⟩ = some (.bool false) := Blk.cell hd 0
  have c9 : w.cell? ⟨db, 9, none⟩ = some (.string r) := Blk.cell hd 9
  have c10 : w.cell? ⟨db, 10, none⟩ = some (.int .i64 (n : Int)) := Blk.cell hd 10
  have f10 : w.frozen? ⟨db, 10, none⟩ = false := Blk.free hd 10
  have f0 : w.frozen? ⟨db, 0, none⟩ = false := Blk.free hd 0
  obtain ⟨H0, hH0⟩ : ∃ H0, hFirst = H0 := ⟨_, rfl⟩
  have HH : Box _ := ⟨hH0⟩
  have hs : H0.Ok := by rw [← hH0]; exact hFirst_ok
  have hdt2 : ¬ tb = db := fun e => hdt e.symm
  have c1 : w.cell? ⟨db, 1, none⟩ = some (.int .u32 (s.a : Int)) := Blk.cell hd 1
  have f1 : w.frozen? ⟨db, 1, none⟩ = false := Blk.free hd 1
  have k1 : w.cell? ⟨tb, 67, none⟩ = some (.int .u32 (H0.a : Int)) := by rw [← HH.out]; exact (Blk.cell ht 67).trans (tab1_f _ _ 0 (by decide))
  have c2 : w.cell? ⟨db, 2, none⟩ = some (.int .u32 (s.b : Int)) := Blk.cell hd 2
  have f2 : w.frozen? ⟨db, 2, none⟩ = false := Blk.free hd 2
  have k2 : w.cell? ⟨tb, 68, none⟩ = some (.int .u32 (H0.b : Int)) := by rw [← HH.out]; exact (Blk.cell ht 68).trans (tab1_f _ _ 1 (by decide))
  have c3 : w.cell? ⟨db, 3, none⟩ = some (.int .u32 (s.c : Int)) := Blk.cell hd 3
  have f3 : w.frozen? ⟨db, 3, none⟩ = false := Blk.free hd 3
  have k3 : w.cell? ⟨tb, 69, none⟩ = some (.int .u32 (H0.c : Int)) := by rw [← HH.out]; exact (Blk.cell ht 69).trans (tab1_f _ _ 2 (by decide))
  have c4 : w.cell? ⟨db, 4, none⟩ = some (.int .u32 (s.d : Int)) := Blk.cell hd 4
  have f4 : w.frozen? ⟨db, 4, none⟩ = false := Blk.free hd 4
  have k4 : w.cell? ⟨tb, 70, none⟩ = some (.int .u32 (H0.d : Int)) := by rw [← HH.out]; exact (Blk.cell ht 70).trans (tab1_f _ _ 3 (by decide))
  have c5 : w.cell? ⟨db, 5, none⟩ = some (.int .u32 (s.e : Int)) := Blk.cell hd 5
  have f5 : w.frozen? ⟨db, 5, none⟩ = false := Blk.free hd 5
  have k5 : w.cell? ⟨tb, 71, none⟩ = some (.int .u32 (H0.e : Int)) := by rw [← HH.out]; exact (Blk.cell ht 71).trans (tab1_f _ _ 4 (by decide))
  have c6 : w.cell? ⟨db, 6, none⟩ = some (.int .u32 (s.f : Int)) := Blk.cell hd 6
  have f6 : w.frozen? ⟨db, 6, none⟩ = false := Blk.free hd 6
  have k6 : w.cell? ⟨tb, 72, none⟩ = some (.int .u32 (H0.f : Int)) := by rw [← HH.out]; exact (Blk.cell ht 72).trans (tab1_f _ _ 5 (by decide))
  have c7 : w.cell? ⟨db, 7, none⟩ = some (.int .u32 (s.g : Int)) := Blk.cell hd 7
  have f7 : w.frozen? ⟨db, 7, none⟩ = false := Blk.free hd 7
  have k7 : w.cell? ⟨tb, 73, none⟩ = some (.int .u32 (H0.g : Int)) := by rw [← HH.out]; exact (Blk.cell ht 73).trans (tab1_f _ _ 6 (by decide))
  have c8 : w.cell? ⟨db, 8, none⟩ = some (.int .u32 (s.h : Int)) := Blk.cell hd 8
  have f8 : w.frozen? ⟨db, 8, none⟩ = false := Blk.free hd 8
  have k8 : w.cell? ⟨tb, 74, none⟩ = some (.int .u32 (H0.h : Int)) := by rw [← HH.out]; exact (Blk.cell ht 74).trans (tab1_f _ _ 7 (by decide))
  have HD : Box _ := ⟨And.intro hd (And.intro ht hs)⟩
  clear hd ht hs hH0
  obtain ⟨m, hm⟩ : ∃ m, r ++ b = m := ⟨_, rfl⟩
  have hms : m.size = r.size + b.size := by rw [← hm, ByteArray.size_append]
  go_enter Tryz.func106, Tryz.ntmps106
  go_wp2
  obtain ⟨wa, hwa⟩ : ∃ wa, wa = (((((((((w.setCell ⟨db, 0, none⟩ (.bool true)).setCell ⟨db, 1, none⟩ (.int .u32 (H0.a : Int))).setCell ⟨db, 2, none⟩ (.int .u32 (H0.b : Int))).setCell ⟨db, 3, none⟩ (.int .u32 (H0.c : Int))).setCell ⟨db, 4, none⟩ (.int .u32 (H0.d : Int))).setCell ⟨db, 5, none⟩ (.int .u32 (H0.e : Int))).setCell ⟨db, 6, none⟩ (.int .u32 (H0.f : Int))).setCell ⟨db, 7, none⟩ (.int .u32 (H0.g : Int))).setCell ⟨db, 8, none⟩ (.int .u32 (H0.h : Int))).setCell ⟨db, 10, none⟩ (.int .i64 ((n : Int) + (b.size : Int))) := ⟨_, rfl⟩
  have e10 : (n : Int) + (b.size : Int) = ((n + b.size : Nat) : Int) := by omega
  rw [← hwa]
  have hda : Blk wa db 150 (digC true H0 r (n + b.size)) := by
    have h0 : Blk (w.setCell ⟨db, 0, none⟩ (.bool true)) db 150 (digC true s r n) := Blk.set HD.out.1 0 _
    rw [hwa, e10]; exact Blk.set (dig_set8 h0 H0) 10 _
  have hga : w.grownBy wa (some db) := by
    rw [hwa]; exact grown_set_more (grown_trans (grown_set w ⟨db, 0, none⟩ _) (set8_grown _ db H0) (fun _ hk => .inl hk)) 10 _
  have HA : Box _ := ⟨And.intro hda hga⟩
  obtain ⟨N, hN⟩ : ∃ N, n + b.size = N := ⟨_, rfl⟩
  rw [hN] at HA
  have HN : Box _ := ⟨And.intro hN hm⟩
  have hst0 : r ++ b = m.extract (64 * 0) m.size := by rw [hm]; simp
  have HST : Box _ := ⟨hst0⟩
  clear hwa hda hga c0 c9 c10 f10 e10 hst0 hm hN f0 c1 f1 k1 c2 f2 k2 c3 f3 k3 c4 f4 k4 c5 f5 k5 c6 f6 k6 c7 f7 k7 c8 f8 k8
  go_loopw [2] (fun x wr => ∃ k : Nat, 64 * k ≤ m.size ∧ x = .string (m.extract (64 * k) m.size) ∧ Box (Blk wr db 150 (digC true (shaBlocks H0 m k) r N)) ∧ Box (w.grownBy wr (some db))) (fun x _ => strSize x)
  case atStart => exact ⟨0, by omega, by simp, ⟨HA.out.1⟩, ⟨HA.out.2⟩⟩
  case round =>
    obtain ⟨k, hk, hxv, HK, HG⟩ := hrel
    obtain ⟨x, hx⟩ : ∃ x, m.extract (64 * k) m.size = x := ⟨_, rfl⟩
    have hxs : x.size = m.size - 64 * k := by rw [← hx, ByteArray.size_extract]; omega
    rw [hx] at hxv
    subst hxv
    have HXX : Box _ := ⟨hx⟩
    clear hx
    by_cases hlt : 64 * k + 64 ≤ m.size
    · obtain ⟨y, hy⟩ : ∃ y, shaBlocks H0 m k = y := ⟨_, rfl⟩
      have hyo : y.Ok := by rw [← hy]; exact shaBlocks_ok H0 m HD.out.2.2 k
      rw [hy] at HK
      have HY : Box _ := ⟨And.intro hy hyo⟩
      have c1 : wr.cell? ⟨db, 1, none⟩ = some (.int .u32 (y.a : Int)) := Blk.cell HK.out 1
      have c2 : wr.cell? ⟨db, 2, none⟩ = some (.int .u32 (y.b : Int)) := Blk.cell HK.out 2
      have c3 : wr.cell? ⟨db, 3, none⟩ = some (.int .u32 (y.c : Int)) := Blk.cell HK.out 3
      have c4 : wr.cell? ⟨db, 4, none⟩ = some (.int .u32 (y.d : Int)) := Blk.cell HK.out 4
      have c5 : wr.cell? ⟨db, 5, none⟩ = some (.int .u32 (y.e : Int)) := Blk.cell HK.out 5
      have c6 : wr.cell? ⟨db, 6, none⟩ = some (.int .u32 (y.f : Int)) := Blk.cell HK.out 6
      have c7 : wr.cell? ⟨db, 7, none⟩ = some (.int .u32 (y.g : Int)) := Blk.cell HK.out 7
      have c8 : wr.cell? ⟨db, 8, none⟩ = some (.int .u32 (y.h : Int)) := Blk.cell HK.out 8
      clear hy hyo
      go_wp2_with fail
      have htk : ∀ i, i < 64 → wr.drew.cell? ⟨tb, 3 + i, none⟩ = some (.int .u32 (kTab.getD i 0 : Nat)) := by
        intro i hi
        have hbt : wr.heap[tb]? = some (.cells (tab1 (.int .u32 1) (.int .i32 0)) 166 (0, 0)) := (HG.out.block tb (Blk.lt HD.out.2.1) (fun e => hdt (Option.some.inj e).symm)).trans HD.out.2.1
        exact (Blk.cell (Blk.drew hbt) (3 + i)).trans (tab1_k _ _ i hi)
      have htl : tb < wr.drew.heap.size := Nat.lt_of_lt_of_le (Blk.lt HD.out.2.1) HG.out.size
      have hbs : (x.extract 0 64).size = 64 := by rw [ByteArray.size_extract]; omega
      obtain ⟨xb, hxb⟩ : ∃ xb, x.extract 0 64 = xb := ⟨_, rfl⟩
      rw [hxb] at hbs
      have hmix := mix_any tb y xb wr.drew HY.out.2 hbs htk htl
      obtain ⟨z, hz⟩ : ∃ z, shaMix y xb = z := ⟨_, rfl⟩
      rw [hz, W8.cells, W8.cells] at hmix
      have HMX : Box _ := ⟨hmix⟩
      have HZ : Box _ := ⟨And.intro hz hxb⟩
      clear hmix hz htk htl hbs
      go_region_law (first | (go_simp; go_at_call 118; refine HMX.out.mono ?_; rintro e w2 ⟨rfl, hb2⟩; have HB2 : Box _ := ⟨hb2⟩; have HK2 : Box (Blk w2 db 150 (digC true y r N)) := ⟨Blk.below (Blk.drew HK.out) hb2⟩; have d1 : w2.cell? ⟨db, 1, none⟩ = some (.int .u32 (y.a : Int)) := Blk.cell HK2.out 1; have f1 : w2.frozen? ⟨db, 1, none⟩ = false := Blk.free HK2.out 1; have d2 : w2.cell? ⟨db, 2, none⟩ = some (.int .u32 (y.b : Int)) := Blk.cell HK2.out 2; have f2 : w2.frozen? ⟨db, 2, none⟩ = false := Blk.free HK2.out 2; have d3 : w2.cell? ⟨db, 3, none⟩ = some (.int .u32 (y.c : Int)) := Blk.cell HK2.out 3; have f3 : w2.frozen? ⟨db, 3, none⟩ = false := Blk.free HK2.out 3; have d4 : w2.cell? ⟨db, 4, none⟩ = some (.int .u32 (y.d : Int)) := Blk.cell HK2.out 4; have f4 : w2.frozen? ⟨db, 4, none⟩ = false := Blk.free HK2.out 4; have d5 : w2.cell? ⟨db, 5, none⟩ = some (.int .u32 (y.e : Int)) := Blk.cell HK2.out 5; have f5 : w2.frozen? ⟨db, 5, none⟩ = false := Blk.free HK2.out 5; have d6 : w2.cell? ⟨db, 6, none⟩ = some (.int .u32 (y.f : Int)) := Blk.cell HK2.out 6; have f6 : w2.frozen? ⟨db, 6, none⟩ = false := Blk.free HK2.out 6; have d7 : w2.cell? ⟨db, 7, none⟩ = some (.int .u32 (y.g : Int)) := Blk.cell HK2.out 7; have f7 : w2.frozen? ⟨db, 7, none⟩ = false := Blk.free HK2.out 7; have d8 : w2.cell? ⟨db, 8, none⟩ = some (.int .u32 (y.h : Int)) := Blk.cell HK2.out 8; have f8 : w2.frozen? ⟨db, 8, none⟩ = false := Blk.free HK2.out 8))
      have h3 := dig_set8 HK2.out z
      have g3 := set8_grown w2 db z
      obtain ⟨w3, hw3⟩ : ∃ w3, w3 = ((((((((w2.setCell ⟨db, 1, none⟩ (.int .u32 (z.a : Int))).setCell ⟨db, 2, none⟩ (.int .u32 (z.b : Int))).setCell ⟨db, 3, none⟩ (.int .u32 (z.c : Int))).setCell ⟨db, 4, none⟩ (.int .u32 (z.d : Int))).setCell ⟨db, 5, none⟩ (.int .u32 (z.e : Int))).setCell ⟨db, 6, none⟩ (.int .u32 (z.f : Int))).setCell ⟨db, 7, none⟩ (.int .u32 (z.g : Int))).setCell ⟨db, 8, none⟩ (.int .u32 (z.h : Int))) := ⟨_, rfl⟩
      rw [← hw3] at h3 g3 ⊢
      have H3 : Box _ := ⟨And.intro h3 g3⟩
      clear hw3 h3 g3 HMX
      go_wp2
      have hsx : strSize (.string x) = m.size - 64 * k := hxs
      have hxt : x.extract 64 (r.size + b.size - 64 * k) = m.extract (64 * (k + 1)) m.size := by
        rw [← ext_tail hlt, HXX.out, hms]
      refine ⟨⟨k + 1, by omega, by rw [hxt], ⟨?_⟩, ⟨?_⟩⟩, ?_⟩
      · rw [shaBlocks, HY.out.1, ← ext_head hlt, HXX.out, HZ.out.2, HZ.out.1]
        exact H3.out.1
      · have hgd : wr.grownBy w2 none := ⟨HB2.out.os, HB2.out.tape, HB2.out.output, HB2.out.size, fun q hq _ => HB2.out.block q hq⟩
        exact grown_trans (grown_trans HG.out hgd (by simp)) H3.out.2 (fun q hq => .inl hq)
      · show (x.extract 64 (r.size + b.size - 64 * k)).size < x.size
        rw [ByteArray.size_extract]; omega
    · have hk64 : m.size / 64 = k := by omega
      have c9 : wr.cell? ⟨db, 9, none⟩ = some (.string r) := Blk.cell HK.out 9
      go_wp2_with fail
      refine (clone_any x _ (by omega)).mono ?_
      rintro e w2 ⟨rfl, hb2⟩
      have HK2 : Box _ := ⟨Blk.below HK.out hb2⟩
      have c9 : w2.cell? ⟨db, 9, none⟩ = some (.string r) := Blk.cell HK2.out 9
      have f9 : w2.frozen? ⟨db, 9, none⟩ = false := Blk.free HK2.out 9
      go_wp2
      go_end0
      refine ⟨rfl, ?_, grown_set_more (grown_trans HG.out (grown_below hb2 none) (by simp)) 9 _⟩
      have := Blk.set HK2.out 9 (.string x)
      rw [HN.out.2, hk64, HXX.out, HN.out.1, HH.out]
      exact this
end Go.Proofs.YtkcfbipnhnboaaaGreat

namespace Go.Proofs.YtkcfbipnhnboaaaGreat
open Go.RowKit

theorem zeroTab (w : World) : (zeroValue 166).run Tryz.prog w = .ok (.agg (tab0 (.int .u32 0) (.int .i32 0))) w := by kernel_rfl

set_option maxHeartbeats 1000000 in
set_option maxRecDepth 100000 in
theorem addNew (db : Nat) (s : W8) (r b : ByteArray) (n : Nat) (w : World) (hsz : r.size + b.size ≤ 1000000000) (hn : n ≤ 1000000000) (hd : Blk w db 150 (digC false s r n)) :
    Calls Tryz.prog 92 #[.pointer (some ⟨db, 0, none⟩), .string b] w fun e w' => e = .returned (.tuple #[]) ∧
      Blk w' db 150 (digC true (shaBlocks hFirst (r ++ b) ((r ++ b).size / 64)) ((r ++ b).extract (64 * ((r ++ b).size / 64)) (r ++ b).size) (n + b.size)) ∧ w.grownBy w' (some db) := by
  have hz := zeroTab
  have hdl := Blk.lt hd
  have HD : Box _ := ⟨hd⟩
  clear hd
  go_enter Tryz.func92, Tryz.ntmps92
  go_wp2_with fail
  have hnew := Blk.new w (.cells (tab0 (.int .u32 0) (.int .i32 0)) 166)
  refine (tableMade w.heap.size _ hnew).mono ?_
  rintro e w1 ⟨rfl, ht1, hb1⟩
  have HT1 : Box _ := ⟨And.intro ht1 hb1⟩
  have hal : Below w.heap.size w (w.alloc (.cells (tab0 (.int .u32 0) (.int .i32 0)) 166)) := (Below.refl _ _).alloc (Nat.le_refl _) _
  have hb : Below w.heap.size w w1 := hal.trans (below_of_grown hb1 (by simp) (by intro k hk; cases hk; exact Nat.le_refl _))
  have HBB : Box _ := ⟨hb⟩
  clear ht1 hb1 hnew hal hb hz
  go_wp2_with fail
  refine (addNew_any db w.heap.size s r b n _ (by omega) hsz hn (Blk.below HD.out HBB.out) HT1.out.1).mono ?_
  rintro e w2 ⟨rfl, hd2, hg2⟩
  have HD2 : Box _ := ⟨And.intro hd2 hg2⟩
  clear hd2 hg2
  go_wp2
  go_end0
  exact ⟨rfl, HD2.out.1, grown_trans (grown_below HBB.out _) HD2.out.2 (fun _ hk => .inl hk)⟩
end Go.Proofs.YtkcfbipnhnboaaaGreat

namespace Go.Proofs.YtkcfbipnhnboaaaGreat
open Go.RowKit

theorem BuilderAt_below {T e : TypeId} {B b : Nat} {p : Value} {bs : List Value} {w w1 : World} (h : Lib.BuilderAt T e B b p bs w) (hb : Below w.heap.size w w1) : Lib.BuilderAt T e B b p bs w1 := by
  obtain ⟨hB, v, h1, h2, h3⟩ := h
  exact ⟨hB, v, Blk.below h1 hb, own_below h2 hb, h3⟩
def wordsL (y : W8) (k : Nat) : List UInt8 := (y.list.take k).flatMap fun v => (bePut v 4).data.toList
theorem wordsL_succ (y : W8) (k : Nat) (h : k < 8) : Lib.byteCells (wordsL y (k + 1)) = Lib.byteCells (wordsL y k) ++ Lib.strCells (bePut (y.list.getD k 0) 4) := by
  have hl : k < y.list.length := h
  rw [Lib.strCells_eq, ← Lib.byteCells_append]
  congr 1
  rw [wordsL, List.take_add_one, List.getElem?_eq_getElem hl, Option.toList_some, List.flatMap_append]
  simp [wordsL, List.getD_eq_getElem?_getD, List.getElem?_eq_getElem hl]
theorem wordsL_bytes (y : W8) : (⟨(wordsL y 8).toArray⟩ : ByteArray) = y.bytes := by
  apply ByteArray.ext
  apply Array.ext'
  simp [wordsL, W8.list, W8.bytes, ByteArray.data_append]
theorem wordsL_len (y : W8) (k : Nat) (h : k ≤ 8) : (Lib.byteCells (wordsL y k)).length ≤ 100 := by
  rw [Lib.byteCells_length]
  have hb : ∀ v, (bePut v 4).data.toList.length = 4 := fun v => by rw [Array.length_toList]; exact bePut_size v 4
  have h2 : ∀ l : List Nat, (l.flatMap fun v => (bePut v 4).data.toList).length = 4 * l.length := by
    intro l
    induction l with
    | nil => rfl
    | cons a l ih => rw [List.flatMap_cons, List.length_append, hb, ih, List.length_cons]; omega
  rw [wordsL, h2, List.length_take]
  omega
theorem idx8 (y : W8) (k : Nat) (hk : k < 8) (W : World) : (Instr.index 148 (.agg #[.int .u32 (y.a : Int), .int .u32 (y.b : Int), .int .u32 (y.c : Int), .int .u32 (y.d : Int), .int .u32 (y.e : Int), .int .u32 (y.f : Int), .int .u32 (y.g : Int), .int .u32 (y.h : Int)]) (.int .i64 (k : Int))).run Tryz.prog W = .ok (.int .u32 ((y.list.getD k 0 : Nat) : Int)) W := by
  obtain rfl | rfl | rfl | rfl | rfl | rfl | rfl | rfl : k = 0 ∨ k = 1 ∨ k = 2 ∨ k = 3 ∨ k = 4 ∨ k = 5 ∨ k = 6 ∨ k = 7 := by omega
  all_goals kernel_rfl
theorem W8.Ok.get {y : W8} (h : y.Ok) (k : Nat) (hk : k < 8) : y.list.getD k 0 < 4294967296 := by
  obtain ⟨l0, l1, l2, l3, l4, l5, l6, l7⟩ := h
  obtain rfl | rfl | rfl | rfl | rfl | rfl | rfl | rfl : k = 0 ∨ k = 1 ∨ k = 2 ∨ k = 3 ∨ k = 4 ∨ k = 5 ∨ k = 6 ∨ k = 7 := by omega
  all_goals (first | exact l0 | exact l1 | exact l2 | exact l3 | exact l4 | exact l5 | exact l6 | exact l7)
def zeroW8 : W8 := ⟨0, 0, 0, 0, 0, 0, 0, 0⟩
theorem zeroDig (w : World) : (zeroValue 150).run Tryz.prog w = .ok (.agg (digC false zeroW8 ByteArray.empty 0)) w := by kernel_rfl

set_option maxHeartbeats 1000000 in
set_option maxRecDepth 100000 in
theorem digSum_any (db : Nat) (s : W8) (r : ByteArray) (n : Nat) (w : World) (hs : s.Ok) (hr : r.size < 64) (hn : n ≤ 1000000000) (hd : Blk w db 150 (digC true s r n)) :
    Calls Tryz.prog 93 #[.pointer (some ⟨db, 0, none⟩)] w fun e w' => e = .returned (.string (shaBlocks s (r ++ (⟨#[128]⟩ ++ zeroB (shaZeros n) ++ bePut (n * 8) 8)) ((r ++ (⟨#[128]⟩ ++ zeroB (shaZeros n) ++ bePut (n * 8) 8)).size / 64)).bytes) ∧ Below w.heap.size w w' := by
  have hz := zeroTab
  have hz2 := zeroDig
  have hdl := Blk.lt hd
  have HD : Box _ := ⟨And.intro hd hs⟩
  have c0 : w.cell? ⟨db, 0, none⟩ = some (.bool true) := Blk.cell hd 0
  have c1 : w.cell? ⟨db, 1, none⟩ = some (.int .u32 (s.a : Int)) := Blk.cell hd 1
  have c2 : w.cell? ⟨db, 2, none⟩ = some (.int .u32 (s.b : Int)) := Blk.cell hd 2
  have c3 : w.cell? ⟨db, 3, none⟩ = some (.int .u32 (s.c : Int)) := Blk.cell hd 3
  have c4 : w.cell? ⟨db, 4, none⟩ = some (.int .u32 (s.d : Int)) := Blk.cell hd 4
  have c5 : w.cell? ⟨db, 5, none⟩ = some (.int .u32 (s.e : Int)) := Blk.cell hd 5
  have c6 : w.cell? ⟨db, 6, none⟩ = some (.int .u32 (s.f : Int)) := Blk.cell hd 6
  have c7 : w.cell? ⟨db, 7, none⟩ = some (.int .u32 (s.g : Int)) := Blk.cell hd 7
  have c8 : w.cell? ⟨db, 8, none⟩ = some (.int .u32 (s.h : Int)) := Blk.cell hd 8
  have c9 : w.cell? ⟨db, 9, none⟩ = some (.string r) := Blk.cell hd 9
  have c10 : w.cell? ⟨db, 10, none⟩ = some (.int .i64 (n : Int)) := Blk.cell hd 10
  clear hd hs
  go_enter Tryz.func93, Tryz.ntmps93
  obtain ⟨W, hW⟩ : ∃ W, W = ((w.alloc (.cells (tab0 (.int .u32 0) (.int .i32 0)) 166)).alloc (.cells (digC false zeroW8 ByteArray.empty 0) 150)).setRow (w.heap.size + 1) (digC true s r n) := ⟨_, rfl⟩
  have hT : Blk W w.heap.size 166 (tab0 (.int .u32 0) (.int .i32 0)) := by
    rw [hW]; exact Blk.setRow_far (Blk.alloc (Blk.new w _) _) (by omega) _
  have hX : Blk W (w.heap.size + 1) 150 (digC true s r n) := by
    rw [hW]; exact Blk.setRow_same (Blk.new_at _ (by simp)) _
  have hbW : Below w.heap.size w W := by
    rw [hW]; exact below_setRow (((Below.refl _ _).alloc (Nat.le_refl _) _).alloc (by simp) _) (by omega) _
  have d10 : W.cell? ⟨db, 10, none⟩ = some (.int .i64 (n : Int)) := (hbW.cell (by exact hdl)).trans c10
  have HW : Box _ := ⟨And.intro hT (And.intro hX hbW)⟩
  have HWW : Box _ := ⟨hW⟩
  clear hT hX hbW hW
  have hi1 : (Tryz.prog.info? 150).map (·.size) = some (digC true s r n).size := by kernel_rfl
  have ho1 : (digC true s r n).all (·.oneCell') = true := by simp [digC, Value.oneCell']
  have hs1 : (digC false zeroW8 ByteArray.empty 0).size = (digC true s r n).size := by rfl
  go_wp2_with (refine list_store_row rfl 150 (.tmp 4) (.tmp 13) rfl (w.heap.size + 1) 150 (digC false zeroW8 ByteArray.empty 0) (digC true s r n) rfl rfl (Blk.new_at _ (by simp)) hi1 hs1 ho1 ?_; rw [← HWW.out])
  obtain ⟨z, hz0⟩ : ∃ z, shaZeros n = z := ⟨_, rfl⟩
  have ez : (119 - (n : Int) % 64) % 64 = (z : Int) := by rw [← hz0]; unfold shaZeros; omega
  have hzl : z < 64 := by rw [← hz0]; unfold shaZeros; omega
  rw [ez]
  have HZ0 : Box _ := ⟨hz0⟩
  have hu8 : U64 (n * 8) := by unfold U64; omega
  have hun : U64 n := by unfold U64; omega
  have hw1 := u64_wrap hun
  have hw2 : IntKind.u64.wrap ((n : Int) * 8) = (n : Int) * 8 := by have := u64_wrap hu8; rwa [show ((n * 8 : Nat) : Int) = (n : Int) * 8 by omega] at this
  have HPB : Box (∀ W : World, Calls Tryz.prog 108 #[.int .u64 ((n : Int) * 8), .int .i64 8] W fun e w' => e = .returned (.string (bePut (n * 8) 8)) ∧ Below W.heap.size W w') := ⟨fun W => by have := putBig_any (n * 8) 8 W hu8 (by omega) (by omega); rw [show ((n * 8 : Nat) : Int) = (n : Int) * 8 by omega] at this; exact this⟩
  clear hu8 hun
  clear hz hz2 hi1 hs1 ho1 c0 c1 c2 c3 c4 c5 c6 c7 c8 c9 c10 HWW ez hz0
  have hzs : (zerosB z).size = z := zerosB_size z
  have hps : (bePut (n * 8) 8).size = 8 := bePut_size _ _
  have hcc1 : ¬ (9223372036854775807 < 1 + z) := by omega
  have hcc2 : ¬ (9223372036854775807 < 1 + z + 8) := by omega
  have HW1 : Box _ := HD
  have HM : Box _ := ⟨tableMade w.heap.size W.drew (Blk.drew HW.out.1)⟩
  have hTl : w.heap.size < W.heap.size := Blk.lt HW.out.1
  have hXl : w.heap.size + 1 < W.heap.size := Blk.lt HW.out.2.1
  go_region_law (first
    | (go_simp; go_at_call 107; refine HM.out.mono ?_; rintro e w1 ⟨rfl, ht1, hg1⟩; have H1 : Box _ := ⟨And.intro ht1 (And.intro hg1 ((HW.out.2.2.drew).trans (below_of_grown hg1 (Nat.le_of_lt hTl) (by intro k hk; cases hk; exact Nat.le_refl _))))⟩; have d10a : w1.cell? ⟨db, 10, none⟩ = some (.int .i64 (n : Int)) := (World.cell?_of_block (hg1.block db (by show db < W.heap.size; omega) (by intro e; cases e; omega))).trans d10)
    | (go_simp; go_at_call 90; refine (repZero_any z _ (by omega)).mono ?_; rintro e w2 ⟨rfl, hb2⟩; have H2 : Box _ := ⟨hb2⟩; have d10b : w2.cell? ⟨db, 10, none⟩ = some (.int .i64 (n : Int)) := (World.cell?_of_block (hb2.block db (by have := H1.out.2.1.size; show db < w1.heap.size; exact Nat.lt_of_lt_of_le (Nat.lt_trans hdl hTl) this))).trans d10a)
    | (go_simp; go_at_call 108; refine (HPB.out _).mono ?_; rintro e w3 ⟨rfl, hb3⟩; have H3 : Box _ := ⟨hb3⟩)
    | (go_simp; go_at_call 106; refine (addOn_any (w.heap.size + 1) w.heap.size s r _ n _ HW1.out.2 (by omega) ?_ hn ?_ ?_).mono ?_; rotate_left; exact Blk.below (Blk.below (blk_grown (Blk.drew HW.out.2.1) H1.out.2.1 (by intro e; have := Option.some.inj e; omega)) H2.out) H3.out; exact Blk.below (Blk.below H1.out.1 H2.out) H3.out; rintro e w4 ⟨rfl, hx4, hg4⟩; have H4 : Box _ := ⟨And.intro hx4 hg4⟩; rotate_left; simp only [ByteArray.size_append, hzs, hps]; show r.size + (1 + z + 8) ≤ _; omega))
  all_goals
    obtain ⟨y, hy⟩ : ∃ y, shaBlocks s (r ++ (⟨#[128]⟩ ++ zeroB (shaZeros n) ++ bePut (n * 8) 8)) ((r ++ (⟨#[128]⟩ ++ zeroB (shaZeros n) ++ bePut (n * 8) 8)).size / 64) = y := ⟨_, rfl⟩
    have hyo : y.Ok := by rw [← hy]; exact shaBlocks_ok s _ HD.out.2 _
    have HY : Box _ := ⟨And.intro hy hyo⟩
    have HX4 : Box (∃ rr nn, Blk w4 (w.heap.size + 1) 150 (digC true y rr nn)) := ⟨_, _, by rw [← hy, HZ0.out]; exact H4.out.1⟩
    obtain ⟨rr, nn, hx5⟩ := HX4.out
    have HX4 : Box _ := ⟨hx5⟩
    clear hy hyo hx5
    have e1 : (w4.alloc (.cells #[.pointer none, .slice none 0 0] 158)).cell? ⟨w.heap.size + 1, 1, none⟩ = some (.int .u32 (y.a : Int)) := by rw [World.cell?_alloc_past _ _ _ (by show w.heap.size + 1 < _; exact Blk.lt H4.out.1)]; exact Blk.cell HX4.out 1
    have e2 : (w4.alloc (.cells #[.pointer none, .slice none 0 0] 158)).cell? ⟨w.heap.size + 1, 2, none⟩ = some (.int .u32 (y.b : Int)) := by rw [World.cell?_alloc_past _ _ _ (by show w.heap.size + 1 < _; exact Blk.lt H4.out.1)]; exact Blk.cell HX4.out 2
    have e3 : (w4.alloc (.cells #[.pointer none, .slice none 0 0] 158)).cell? ⟨w.heap.size + 1, 3, none⟩ = some (.int .u32 (y.c : Int)) := by rw [World.cell?_alloc_past _ _ _ (by show w.heap.size + 1 < _; exact Blk.lt H4.out.1)]; exact Blk.cell HX4.out 3
    have e4 : (w4.alloc (.cells #[.pointer none, .slice none 0 0] 158)).cell? ⟨w.heap.size + 1, 4, none⟩ = some (.int .u32 (y.d : Int)) := by rw [World.cell?_alloc_past _ _ _ (by show w.heap.size + 1 < _; exact Blk.lt H4.out.1)]; exact Blk.cell HX4.out 4
    have e5 : (w4.alloc (.cells #[.pointer none, .slice none 0 0] 158)).cell? ⟨w.heap.size + 1, 5, none⟩ = some (.int .u32 (y.e : Int)) := by rw [World.cell?_alloc_past _ _ _ (by show w.heap.size + 1 < _; exact Blk.lt H4.out.1)]; exact Blk.cell HX4.out 5
    have e6 : (w4.alloc (.cells #[.pointer none, .slice none 0 0] 158)).cell? ⟨w.heap.size + 1, 6, none⟩ = some (.int .u32 (y.f : Int)) := by rw [World.cell?_alloc_past _ _ _ (by show w.heap.size + 1 < _; exact Blk.lt H4.out.1)]; exact Blk.cell HX4.out 6
    have e7 : (w4.alloc (.cells #[.pointer none, .slice none 0 0] 158)).cell? ⟨w.heap.size + 1, 7, none⟩ = some (.int .u32 (y.g : Int)) := by rw [World.cell?_alloc_past _ _ _ (by show w.heap.size + 1 < _; exact Blk.lt H4.out.1)]; exact Blk.cell HX4.out 7
    have e8 : (w4.alloc (.cells #[.pointer none, .slice none 0 0] 158)).cell? ⟨w.heap.size + 1, 8, none⟩ = some (.int .u32 (y.h : Int)) := by rw [World.cell?_alloc_past _ _ _ (by show w.heap.size + 1 < _; exact Blk.lt H4.out.1)]; exact Blk.cell HX4.out 8
    have hwb : Below w.heap.size w w4 := by
      have h1 : Below w.heap.size w W.drew := HW.out.2.2.drew
      have h2 : Below w.heap.size W.drew _ := below_of_grown H1.out.2.1 (Nat.le_of_lt hTl) (by intro q hq; have := Option.some.inj hq; omega)
      have s1 := H1.out.2.1.size
      have s0 : W.drew.heap.size = W.heap.size := rfl
      have s2 := H2.out.size
      have s3 := H3.out.size
      exact (((h1.trans h2).trans (H2.out.mono (by omega))).trans (H3.out.mono (by omega))).trans (below_of_grown H4.out.2 (by omega) (by intro q hq; have := Option.some.inj hq; omega))
    have HWB : Box _ := ⟨hwb⟩
    have hws := hwb.size
    obtain ⟨bb, hbb⟩ : ∃ bb, w4.heap.size = bb := ⟨_, rfl⟩
    have hnew : Lib.IsBuilder 158 5 bb bb (Lib.byteCells (wordsL y 0)) (w4.alloc (.cells #[.pointer none, .slice none 0 0] 158)) :=
      .inl ⟨Nat.le_refl _, .slice none 0 0, Blk.new_at _ hbb.symm, own_nil _ _ _ _, by simp [Value.ownBlock]⟩
    have hab : Below bb w4 (w4.alloc (.cells #[.pointer none, .slice none 0 0] 158)) := (Below.refl _ _).alloc (by omega) _
    have HNB : Box _ := ⟨And.intro hnew hab⟩
    have HPK : Box (∀ v : Nat, v < 4294967296 → ∀ W : World, Calls Tryz.prog 108 #[.int .u64 (v : Int), .int .i64 4] W fun e w' => e = .returned (.string (bePut v 4)) ∧ Below W.heap.size W w') := ⟨fun v hv W => putBig_any v 4 W (U64.of hv) (by omega) (by omega)⟩
    have hws4 : w.heap.size ≤ bb := by omega
    go_wp2_with fail
    have HBB : Box _ := ⟨hbb⟩
    clear H4 H3 H2 H1 HM HPB HX4 HD hwb hnew hab hws d10 d10a d10b hcc1 hcc2 hzs hps hw1 hw2 HW
    clear hbb
    go_loopw [36] (fun i wr => ∃ k : Nat, k ≤ 8 ∧ i = .int .i64 (k : Int) ∧ Box (Lib.IsBuilder 158 5 bb bb (Lib.byteCells (wordsL y k)) wr) ∧ Box (Below bb w4 wr)) (fun i _ => 8 - (intOf i).toNat)
    case atStart => exact ⟨0, by omega, rfl, ⟨HNB.out.1⟩, ⟨HNB.out.2⟩⟩
    case round =>
      obtain ⟨k, hk, rfl, HI, HB⟩ := hrel
      have hb8 : bb ≤ wr.heap.size := by have := HB.out.size; have := HBB.out; omega
      have hlen := wordsL_len y k hk
      by_cases hlt : k < 8
      · have hsucc := wordsL_succ y k hlt
        have HS : Box _ := ⟨hsucc⟩
        clear hsucc
        have hix := idx8 y k hlt
        have hvl := HY.out.2.get k hlt
        obtain ⟨v, hv⟩ : ∃ v, y.list.getD k 0 = v := ⟨_, rfl⟩
        rw [hv] at hvl
        simp only [hv] at hix
        have HV : Box _ := ⟨hv⟩
        clear hv
        go_wp2_with fail
        refine (HPK.out _ hvl _).mono ?_
        rintro e w6 ⟨rfl, hb6⟩
        have hI6 : Lib.IsBuilder 158 5 bb bb (Lib.byteCells (wordsL y k)) w6 := Or.imp (fun h => BuilderAt_below h hb6) (fun h => BuilderAt_below h hb6) HI.out
        have hs6 := hb6.size
        have HB6 : Box _ := ⟨hb6⟩
        have hp4 := bePut_size
        go_wp2_with fail
        refine (writeString_any bb bb _ _ _ hI6 (by rw [hp4]; omega) (by omega)).mono ?_
        rintro e w7 ⟨rfl, hI7, hb7⟩
        have HI7 : Box _ := ⟨hI7⟩
        have HB7 : Box _ := ⟨hb7⟩
        clear hI6 hI7 hb6 hb7 hp4
        go_wp2
        refine ⟨⟨k + 1, by omega, by go_num, ⟨.inr (by rw [HS.out, HV.out]; exact HI7.out)⟩, ⟨(HB.out.trans (HB6.out.mono (by omega))).trans HB7.out⟩⟩, by simp [intOf]; omega⟩
      · obtain rfl : k = 8 := by omega
        go_wp2_with fail
        refine (Tryz.Builder_String_any bb bb (wordsL y 8) _ HI.out hb8).mono ?_
        rintro e w6 ⟨rfl, hb6⟩
        have HB6 : Box _ := ⟨hb6⟩
        rw [wordsL_bytes]
        go_wp2
        go_ret
        rw [HY.out.1]
        refine ⟨rfl, ?_⟩
        exact HWB.out.trans ((HB.out.trans HB6.out).mono (by omega))
end Go.Proofs.YtkcfbipnhnboaaaGreat

namespace Go.Proofs.YtkcfbipnhnboaaaGreat
open Go.RowKit

theorem shaBlocks_left (h : W8) (b t : ByteArray) (q : Nat) (hq : 64 * q ≤ b.size) : shaBlocks h (b ++ t) q = shaBlocks h b q := by
  induction q with
  | zero => rfl
  | succ q ih =>
    rw [shaBlocks, shaBlocks, ih (by omega), ByteArray.extract_append]
    have e1 : 64 * q - b.size = 0 := by omega
    have e2 : 64 * q + 64 - b.size = 0 := by omega
    rw [e1, e2]
    have e3 : t.extract 0 0 = ByteArray.empty := by apply ByteArray.ext; simp
    rw [e3, ByteArray.append_empty]
theorem ext_min (b : ByteArray) (i j : Nat) : b.extract i (min j b.size) = b.extract i j := by
  rcases Nat.le_total j b.size with h | h
  · rw [Nat.min_eq_left h]
  · rw [Nat.min_eq_right h]
    apply ByteArray.ext
    simp only [ByteArray.data_extract]
    apply Array.ext_getElem?
    intro k
    have hd : b.data.size = b.size := rfl
    simp only [Array.getElem?_extract]
    by_cases hk : i + k < b.size
    · rw [if_pos (by omega), if_pos (by omega)]
    · have hn : b.data[i + k]? = none := Array.getElem?_eq_none (by omega)
      rw [hn]
      split <;> split <;> rfl
theorem shaBlocks_right (h : W8) (b t : ByteArray) (q : Nat) (hq : 64 * q ≤ b.size) (m : Nat) : shaBlocks (shaBlocks h b q) (b.extract (64 * q) b.size ++ t) m = shaBlocks h (b ++ t) (q + m) := by
  induction m with
  | zero => rw [Nat.add_zero, shaBlocks_left h b t q hq]; rfl
  | succ m ih =>
    rw [shaBlocks, ih, ← Nat.add_assoc, shaBlocks]
    congr 1
    rw [ByteArray.extract_append, ByteArray.extract_append, ByteArray.extract_extract, ByteArray.size_extract]
    have e1 : min (64 * q + (64 * m + 64)) b.size = min (64 * (q + m) + 64) b.size := by congr 1; omega
    have e2 : 64 * q + 64 * m = 64 * (q + m) := by omega
    have e3 : 64 * m - (min b.size b.size - 64 * q) = 64 * (q + m) - b.size := by omega
    have e4 : 64 * m + 64 - (min b.size b.size - 64 * q) = 64 * (q + m) + 64 - b.size := by omega
    rw [e1, e2, e3, e4]
    rw [ext_min]
theorem sha_split (b t : ByteArray) (h : W8) : shaBlocks (shaBlocks h b (b.size / 64)) (b.extract (64 * (b.size / 64)) b.size ++ t) ((b.extract (64 * (b.size / 64)) b.size ++ t).size / 64) = shaBlocks h (b ++ t) ((b ++ t).size / 64) := by
  rw [shaBlocks_right h b t (b.size / 64) (by omega)]
  congr 1
  simp only [ByteArray.size_append, ByteArray.size_extract]
  omega

set_option maxHeartbeats 1000000 in
set_option maxRecDepth 100000 in
theorem sum_any (b : ByteArray) (w : World) (hs : b.size ≤ 100000000) : Calls Tryz.prog 74 #[.string b] w fun e w' => e = .returned (.string (sha256 b)) ∧ Below w.heap.size w w' := by
  have hz := zeroDig
  go_enter Tryz.func74, Tryz.ntmps74
  go_wp2_with fail
  refine (addNew w.heap.size zeroW8 ByteArray.empty b 0 _ (by show ByteArray.empty.size + _ ≤ _; rw [ByteArray.size_empty]; omega) (by omega) (Blk.new w _)).mono ?_
  rintro e w1 ⟨rfl, h1, g1⟩
  have h1' : Blk w1 w.heap.size 150 (digC true (shaBlocks hFirst b (b.size / 64)) (b.extract (64 * (b.size / 64)) b.size) b.size) := by
    simp only [ByteArray.empty_append, Nat.zero_add] at h1
    exact h1
  have hal : Below w.heap.size w (w.alloc (.cells (digC false zeroW8 ByteArray.empty 0) 150)) := (Below.refl _ _).alloc (Nat.le_refl _) _
  have hb1 : Below w.heap.size w w1 := hal.trans (below_of_grown g1 (by simp) (by intro k hk; cases hk; exact Nat.le_refl _))
  have H1 : Box _ := ⟨And.intro h1' hb1⟩
  clear h1 g1 h1' hal hb1 hz
  go_wp2_with fail
  refine (digSum_any w.heap.size _ _ b.size _ (shaBlocks_ok _ _ hFirst_ok _) (by rw [ByteArray.size_extract]; omega) (by omega) H1.out.1).mono ?_
  rintro e w2 ⟨rfl, hb2⟩
  have H2 : Box _ := ⟨hb2⟩
  have hfin : (shaBlocks (shaBlocks hFirst b (b.size / 64)) (b.extract (64 * (b.size / 64)) b.size ++ (⟨#[128]⟩ ++ zeroB (shaZeros b.size) ++ bePut (b.size * 8) 8)) ((b.extract (64 * (b.size / 64)) b.size ++ (⟨#[128]⟩ ++ zeroB (shaZeros b.size) ++ bePut (b.size * 8) 8)).size / 64)).bytes = sha256 b := by
    rw [sha_split]; rfl
  rw [hfin]
  obtain ⟨o, ho⟩ : ∃ o, sha256 b = o := ⟨_, rfl⟩
  have HO : Box _ := ⟨ho⟩
  rw [ho]
  clear hb2 hfin ho
  go_wp2
  go_ret
  rw [HO.out]
  exact ⟨rfl, H1.out.2.trans (H2.out.mono H1.out.2.size)⟩
end Go.Proofs.YtkcfbipnhnboaaaGreat

namespace Go.Proofs.YtkcfbipnhnboaaaGreat
open Go.RowKit

def byteAt (a : ByteArray) (i : Nat) : Nat := (a.data.toList.getD i 0).toNat
theorem byteAt_lt (a : ByteArray) (i : Nat) : byteAt a i < 256 := UInt8.toNat_lt _
theorem byteAt_get (a : ByteArray) (i : Nat) (h : i < a.size) : (a[i]'h).toNat = byteAt a i := by rw [byteAt, getD_get a i h]
def xorL (a b : ByteArray) (n : Nat) : List Nat := (List.range n).map fun i => byteAt a i ^^^ byteAt b i
def xorB (a b : ByteArray) : ByteArray := strOf (xorL a b (min a.size b.size))
theorem xorB_size (a b : ByteArray) : (xorB a b).size = min a.size b.size := by simp [xorB, strOf_size, xorL]
def xorPart (a b : ByteArray) (n k : Nat) : List Nat := xorL a b k ++ List.replicate (n - k) 0
theorem xorPart_length (a b : ByteArray) (n k : Nat) (h : k ≤ n) : (xorPart a b n k).length = n := by simp [xorPart, xorL]; omega
theorem xorPart_succ (a b : ByteArray) (n k : Nat) (h : k < n) : (xorPart a b n k).set k (byteAt a k ^^^ byteAt b k) = xorPart a b n (k + 1) := by
  have e : n - k = (n - (k + 1)) + 1 := by omega
  have hl : (xorL a b k).length = k := by simp [xorL]
  rw [xorPart, e, List.replicate_succ, List.set_append_right _ _ (by omega), hl, Nat.sub_self, List.set_cons_zero, xorPart]
  have : xorL a b (k + 1) = xorL a b k ++ [byteAt a k ^^^ byteAt b k] := by simp [xorL, List.range_succ]
  rw [this, List.append_assoc]
  rfl
theorem xorPart_full (a b : ByteArray) (n : Nat) : xorPart a b n n = xorL a b n := by simp [xorPart]

set_option maxHeartbeats 1000000 in
set_option maxRecDepth 100000 in
theorem xor_any (a b : ByteArray) (w : World) (ha : a.size ≤ 1000000000) (hb : b.size ≤ 1000000000) : Calls Tryz.prog 72 #[.string a, .string b] w fun e w' => e = .returned (.string (xorB a b)) ∧ Below w.heap.size w w' := by
  obtain ⟨n, hn⟩ : ∃ n, min a.size b.size = n := ⟨_, rfl⟩
  have hmk := run_make_ints (P := Tryz.prog) 42 5 .u8 1 Tryz.underlying42 (by kernel_rfl) (by decide) n (by omega)
  have hmin : min (a.size : Int) (b.size : Int) = (n : Int) := by omega
  have hna : n ≤ a.size := by omega
  have hnb : n ≤ b.size := by omega
  have HN : Box _ := ⟨hn⟩
  have hst0 : Blk (w.alloc (.cells (Array.replicate n (.int .u8 0)) 5)) w.heap.size 5 (byteCells (xorPart a b n 0)) := by
    have : xorPart a b n 0 = List.replicate n 0 := by simp [xorPart, xorL]
    rw [this, byteCells_zero]; exact Blk.new w _
  have HST : Box _ := ⟨hst0⟩
  clear hn hst0
  go_enter Tryz.func72, Tryz.ntmps72
  go_wp2
  go_loopw [15] (fun i wr => ∃ k : Nat, k ≤ n ∧ i = .int .i64 (k : Int) ∧ Box (Blk wr w.heap.size 5 (byteCells (xorPart a b n k))) ∧ Box (Below w.heap.size w wr)) (fun i _ => n - (intOf i).toNat)
  case atStart => exact ⟨0, Nat.zero_le _, rfl, HST, ⟨(Below.refl _ _).alloc (Nat.le_refl _) _⟩⟩
  case round =>
    obtain ⟨k, hk, rfl, HK, HB⟩ := hrel
    by_cases hlt : k < n
    · have hc := Blk.cell HK.out k
      rw [byteCells_get _ _ (by rw [xorPart_length _ _ _ _ hk]; exact hlt)] at hc
      obtain ⟨u, hu⟩ : ∃ u, wr.cell? ⟨w.heap.size, k, none⟩ = some u := ⟨_, hc⟩
      have hf := Blk.free HK.out k
      obtain ⟨x, hx⟩ : ∃ x, byteAt a k = x := ⟨_, rfl⟩
      obtain ⟨y, hy⟩ : ∃ y, byteAt b k = y := ⟨_, rfl⟩
      have hx2 : x < 256 := by rw [← hx]; exact byteAt_lt _ _
      have hy2 : y < 256 := by rw [← hy]; exact byteAt_lt _ _
      have e0 : ∀ h : k < a.size, (a[k]'h).toNat = x := fun h => (byteAt_get a k h).trans hx
      have e1 : ∀ h : k < b.size, (b[k]'h).toNat = y := fun h => (byteAt_get b k h).trans hy
      have hxy := u8_xor_nat x y hx2 hy2
      have HXY : Box _ := ⟨And.intro hx hy⟩
      clear hc hx hy
      go_wp2_with fail
      go_region
      all_goals
        go_wp2
        have hst := Blk.set HK.out k (.int .u8 ((x ^^^ y : Nat) : Int))
        rw [byteCells_set, ← HXY.out.1, ← HXY.out.2, xorPart_succ _ _ _ _ hlt, HXY.out.1, HXY.out.2] at hst
        refine ⟨⟨k + 1, by omega, by go_num, ⟨?_⟩, ⟨?_⟩⟩, by simp [intOf]; omega⟩
        · first | exact Blk.drew hst | exact hst
        · first | exact (HB.out.setCell (Nat.le_refl _) _).drew | exact HB.out.drew.setCell (Nat.le_refl _) _
    · obtain rfl : k = n := by omega
      have hblk := HK.out
      rw [xorPart_full] at hblk
      have hconv := run_string_of_blk (P := Tryz.prog) 42 9 5 Tryz.underlying42 Tryz.underlying5 Tryz.underlying9 hblk k k (by simp [xorL])
      obtain ⟨o, ho⟩ : ∃ o, strOf (xorL a b k) = o := ⟨_, rfl⟩
      rw [ho] at hconv
      have HO : Box _ := ⟨ho⟩
      clear hblk ho
      go_wp2
      go_ret
      rw [xorB, HN.out, HO.out]
      exact ⟨rfl, HB.out⟩
end Go.Proofs.YtkcfbipnhnboaaaGreat

namespace Go.Proofs.YtkcfbipnhnboaaaGreat
open Go.RowKit

def repB (c n : Nat) : ByteArray := strOf (List.replicate n c)
theorem repB_size (c n : Nat) : (repB c n).size = n := by simp [repB, strOf_size]
theorem repeatL_rep (c : UInt8) (n : Nat) : (⟨(Lib.repeatL [c] n).toArray⟩ : ByteArray) = repB c.toNat n := by
  have h : ∀ n, Lib.repeatL [c] n = List.replicate n c := by
    intro n
    induction n with
    | zero => rfl
    | succ n ih => rw [Lib.repeatL, ih]; rfl
  rw [h, repB, strOf]
  congr 2
  simp
theorem rep_any (c : UInt8) (n : Nat) (w : World) (hc : n ≤ 1099511627776) :
    Calls Tryz.prog 90 #[.string ⟨#[c]⟩, .int .i64 n] w fun e w' => e = .returned (.string (repB c.toNat n)) ∧ Below w.heap.size w w' := by
  refine (Tryz.strings_Repeat ⟨#[c]⟩ n w (by omega) (by show 1 * n ≤ _; omega)).mono ?_
  rintro e w' ⟨rfl, hb⟩
  exact ⟨by rw [← repeatL_rep], hb⟩
/-- The key, filled up to a block. -/
def macKey (k : ByteArray) : ByteArray := if 64 < k.size then sha256 k ++ zerosB (64 - 32) else k ++ zerosB (64 - k.size)
theorem macKey_size (k : ByteArray) : (macKey k).size = 64 := by
  unfold macKey
  split
  · rw [ByteArray.size_append, sha256_size, zerosB_size]
  · rw [ByteArray.size_append, zerosB_size]; omega
/-- HMAC over SHA-256. -/
def hmac (k b : ByteArray) : ByteArray := sha256 (xorB (macKey k) (repB 92 64) ++ sha256 (xorB (macKey k) (repB 54 64) ++ b))
theorem hmac_size (k b : ByteArray) : (hmac k b).size = 32 := sha256_size _
theorem xorKey_size (k : ByteArray) (c : Nat) : (xorB (macKey k) (repB c 64)).size = 64 := by rw [xorB_size, macKey_size, repB_size]; rfl

set_option maxHeartbeats 1000000 in
set_option maxRecDepth 100000 in
theorem mac_big (k b : ByteArray) (w : World) (hk : k.size ≤ 10000000) (hb : b.size ≤ 10000000) (hbig : 64 < k.size) : Calls Tryz.prog 69 #[.string k, .string b] w fun e w' => e = .returned (.string (hmac k b)) ∧ Below w.heap.size w w' := by
  obtain ⟨kp, hkp⟩ : ∃ kp, macKey k = kp := ⟨_, rfl⟩
  obtain ⟨n0, hn0⟩ : ∃ n0 : Nat, 64 - 32 = n0 := ⟨_, rfl⟩
  obtain ⟨k0, hk0⟩ : ∃ k0, sha256 k = k0 := ⟨_, rfl⟩
  have hk0s : k0.size + n0 = 64 := by rw [← hk0, ← hn0]; rw [sha256_size]
  have hkk : k0 ++ zerosB n0 = kp := by rw [← hkp, macKey, if_pos hbig, hk0, hn0]
  have hks : kp.size = 64 := by rw [← hkp]; exact macKey_size k
  have hzs : (zerosB n0).size = n0 := zerosB_size n0
  have hn64 : n0 ≤ 64 := by omega
  have hsub : 64 - (k0.size : Int) = (n0 : Int) := by omega
  have hcc : ¬ (9223372036854775807 < k0.size + n0) := by omega
  have HZ : Box (∀ W : World, Calls Tryz.prog 90 #[.string ⟨#[0]⟩, .int .i64 (n0 : Int)] W fun e w' => e = .returned (.string (zerosB n0)) ∧ Below W.heap.size W w') := ⟨fun W => repZero_any n0 W (by omega)⟩
  have HI : Box (∀ W : World, Calls Tryz.prog 90 #[.string ⟨#[54]⟩, .int .i64 64] W fun e w' => e = .returned (.string (repB 54 64)) ∧ Below W.heap.size W w') := ⟨fun W => rep_any 54 64 W (by omega)⟩
  have HO : Box (∀ W : World, Calls Tryz.prog 90 #[.string ⟨#[92]⟩, .int .i64 64] W fun e w' => e = .returned (.string (repB 92 64)) ∧ Below W.heap.size W w') := ⟨fun W => rep_any 92 64 W (by omega)⟩
  obtain ⟨ri, hri⟩ : ∃ ri, repB 54 64 = ri := ⟨_, rfl⟩
  obtain ⟨ro, hro⟩ : ∃ ro, repB 92 64 = ro := ⟨_, rfl⟩
  have hris : ri.size = 64 := by rw [← hri]; exact repB_size _ _
  have hros : ro.size = 64 := by rw [← hro]; exact repB_size _ _
  rw [hri] at HI
  rw [hro] at HO
  obtain ⟨xi, hxi⟩ : ∃ xi, xorB kp ri = xi := ⟨_, rfl⟩
  obtain ⟨xo, hxo⟩ : ∃ xo, xorB kp ro = xo := ⟨_, rfl⟩
  have hxis : xi.size = 64 := by rw [← hxi, xorB_size, hks, hris]; rfl
  have hxos : xo.size = 64 := by rw [← hxo, xorB_size, hks, hros]; rfl
  obtain ⟨si, hsi⟩ : ∃ si, sha256 (xi ++ b) = si := ⟨_, rfl⟩
  have hsis : si.size = 32 := by rw [← hsi]; exact sha256_size _
  have hfin : hmac k b = sha256 (xo ++ si) := by rw [hmac, hkp, hri, hro, hxi, hxo, hsi]
  obtain ⟨so, hso⟩ : ∃ so, sha256 (xo ++ si) = so := ⟨_, rfl⟩
  rw [hso] at hfin
  have HF : Box _ := ⟨hfin⟩
  have HX : Box _ := ⟨And.intro hxi hxo⟩
  have HS : Box _ := ⟨And.intro hsi hso⟩
  have HKK : Box _ := ⟨hkk⟩
  have HK0 : Box _ := ⟨hk0⟩
  have hc1 : ¬ (9223372036854775807 < 64 + b.size) := by omega
  clear hfin hxi hxo hsi hso hkp hri hro hn0 hk0
  go_enter Tryz.func69, Tryz.ntmps69
  go_wp2_with fail
  refine (sum_any k _ (by omega)).mono ?_
  rintro e w0 ⟨rfl, hb0⟩
  rw [HK0.out]
  have HB0 : Box _ := ⟨hb0⟩
  clear hb0
  go_wp2_with fail
  refine (HZ.out _).mono ?_
  rintro e w1 ⟨rfl, hb1⟩
  have HB1 : Box _ := ⟨hb1⟩
  clear hb1
  go_wp2_with fail
  refine (HI.out _).mono ?_
  rintro e w2 ⟨rfl, hb2⟩
  have HB2 : Box _ := ⟨hb2⟩
  clear hb2
  go_wp2_with fail
  refine (xor_any kp ri _ (by omega) (by omega)).mono ?_
  rintro e w3 ⟨rfl, hb3⟩
  rw [HX.out.1]
  have HB3 : Box _ := ⟨hb3⟩
  clear hb3
  go_wp2_with fail
  refine (sum_any (xi ++ b) _ (by rw [ByteArray.size_append]; omega)).mono ?_
  rintro e w4 ⟨rfl, hb4⟩
  rw [HS.out.1]
  have HB4 : Box _ := ⟨hb4⟩
  clear hb4
  go_wp2_with fail
  refine (HO.out _).mono ?_
  rintro e w5 ⟨rfl, hb5⟩
  have HB5 : Box _ := ⟨hb5⟩
  clear hb5
  go_wp2_with fail
  refine (xor_any kp ro _ (by omega) (by omega)).mono ?_
  rintro e w6 ⟨rfl, hb6⟩
  rw [HX.out.2]
  have HB6 : Box _ := ⟨hb6⟩
  clear hb6
  go_wp2_with fail
  refine (sum_any (xo ++ si) _ (by rw [ByteArray.size_append]; omega)).mono ?_
  rintro e w7 ⟨rfl, hb7⟩
  rw [HS.out.2]
  have HB7 : Box _ := ⟨hb7⟩
  clear hb7
  go_wp2
  go_ret
  rw [HF.out]
  have s1 := HB1.out.size
  have s2 := HB2.out.size
  have s3 := HB3.out.size
  have s4 := HB4.out.size
  have s5 := HB5.out.size
  have s6 := HB6.out.size
  have s0 := HB0.out.size
  exact ⟨rfl, ((((((HB0.out.trans (HB1.out.mono (by omega))).trans (HB2.out.mono (by omega))).trans (HB3.out.mono (by omega))).trans (HB4.out.mono (by omega))).trans (HB5.out.mono (by omega))).trans (HB6.out.mono (by omega))).trans (HB7.out.mono (by omega))⟩

set_option maxHeartbeats 1000000 in
set_option maxRecDepth 100000 in
theorem mac_small (k b : ByteArray) (w : World) (hk : k.size ≤ 10000000) (hb : b.size ≤ 10000000) (hbig : ¬ 64 < k.size) : Calls Tryz.prog 69 #[.string k, .string b] w fun e w' => e = .returned (.string (hmac k b)) ∧ Below w.heap.size w w' := by
  obtain ⟨kp, hkp⟩ : ∃ kp, macKey k = kp := ⟨_, rfl⟩
  obtain ⟨n0, hn0⟩ : ∃ n0 : Nat, 64 - k.size = n0 := ⟨_, rfl⟩
  obtain ⟨k0, hk0⟩ : ∃ k0, k = k0 := ⟨_, rfl⟩
  have hk0s : k0.size + n0 = 64 := by rw [← hk0, ← hn0]; omega
  have hkk : k0 ++ zerosB n0 = kp := by rw [← hkp, macKey, if_neg hbig, hn0, hk0]
  have hks : kp.size = 64 := by rw [← hkp]; exact macKey_size k
  have hzs : (zerosB n0).size = n0 := zerosB_size n0
  have hn64 : n0 ≤ 64 := by omega
  have hsub : 64 - (k0.size : Int) = (n0 : Int) := by omega
  have hcc : ¬ (9223372036854775807 < k0.size + n0) := by omega
  have HZ : Box (∀ W : World, Calls Tryz.prog 90 #[.string ⟨#[0]⟩, .int .i64 (n0 : Int)] W fun e w' => e = .returned (.string (zerosB n0)) ∧ Below W.heap.size W w') := ⟨fun W => repZero_any n0 W (by omega)⟩
  have HI : Box (∀ W : World, Calls Tryz.prog 90 #[.string ⟨#[54]⟩, .int .i64 64] W fun e w' => e = .returned (.string (repB 54 64)) ∧ Below W.heap.size W w') := ⟨fun W => rep_any 54 64 W (by omega)⟩
  have HO : Box (∀ W : World, Calls Tryz.prog 90 #[.string ⟨#[92]⟩, .int .i64 64] W fun e w' => e = .returned (.string (repB 92 64)) ∧ Below W.heap.size W w') := ⟨fun W => rep_any 92 64 W (by omega)⟩
  obtain ⟨ri, hri⟩ : ∃ ri, repB 54 64 = ri := ⟨_, rfl⟩
  obtain ⟨ro, hro⟩ : ∃ ro, repB 92 64 = ro := ⟨_, rfl⟩
  have hris : ri.size = 64 := by rw [← hri]; exact repB_size _ _
  have hros : ro.size = 64 := by rw [← hro]; exact repB_size _ _
  rw [hri] at HI
  rw [hro] at HO
  obtain ⟨xi, hxi⟩ : ∃ xi, xorB kp ri = xi := ⟨_, rfl⟩
  obtain ⟨xo, hxo⟩ : ∃ xo, xorB kp ro = xo := ⟨_, rfl⟩
  have hxis : xi.size = 64 := by rw [← hxi, xorB_size, hks, hris]; rfl
  have hxos : xo.size = 64 := by rw [← hxo, xorB_size, hks, hros]; rfl
  obtain ⟨si, hsi⟩ : ∃ si, sha256 (xi ++ b) = si := ⟨_, rfl⟩
  have hsis : si.size = 32 := by rw [← hsi]; exact sha256_size _
  have hfin : hmac k b = sha256 (xo ++ si) := by rw [hmac, hkp, hri, hro, hxi, hxo, hsi]
  obtain ⟨so, hso⟩ : ∃ so, sha256 (xo ++ si) = so := ⟨_, rfl⟩
  rw [hso] at hfin
  have HF : Box _ := ⟨hfin⟩
  have HX : Box _ := ⟨And.intro hxi hxo⟩
  have HS : Box _ := ⟨And.intro hsi hso⟩
  have HKK : Box _ := ⟨hkk⟩
  have HK0 : Box _ := ⟨hk0⟩
  have hc1 : ¬ (9223372036854775807 < 64 + b.size) := by omega
  clear hfin hxi hxo hsi hso hkp hri hro hn0
  subst hk0
  go_enter Tryz.func69, Tryz.ntmps69
  go_wp2_with fail
  refine (HZ.out _).mono ?_
  rintro e w1 ⟨rfl, hb1⟩
  have HB1 : Box _ := ⟨hb1⟩
  clear hb1
  go_wp2_with fail
  refine (HI.out _).mono ?_
  rintro e w2 ⟨rfl, hb2⟩
  have HB2 : Box _ := ⟨hb2⟩
  clear hb2
  go_wp2_with fail
  refine (xor_any kp ri _ (by omega) (by omega)).mono ?_
  rintro e w3 ⟨rfl, hb3⟩
  rw [HX.out.1]
  have HB3 : Box _ := ⟨hb3⟩
  clear hb3
  go_wp2_with fail
  refine (sum_any (xi ++ b) _ (by rw [ByteArray.size_append]; omega)).mono ?_
  rintro e w4 ⟨rfl, hb4⟩
  rw [HS.out.1]
  have HB4 : Box _ := ⟨hb4⟩
  clear hb4
  go_wp2_with fail
  refine (HO.out _).mono ?_
  rintro e w5 ⟨rfl, hb5⟩
  have HB5 : Box _ := ⟨hb5⟩
  clear hb5
  go_wp2_with fail
  refine (xor_any kp ro _ (by omega) (by omega)).mono ?_
  rintro e w6 ⟨rfl, hb6⟩
  rw [HX.out.2]
  have HB6 : Box _ := ⟨hb6⟩
  clear hb6
  go_wp2_with fail
  refine (sum_any (xo ++ si) _ (by rw [ByteArray.size_append]; omega)).mono ?_
  rintro e w7 ⟨rfl, hb7⟩
  rw [HS.out.2]
  have HB7 : Box _ := ⟨hb7⟩
  clear hb7
  go_wp2
  go_ret
  rw [HF.out]
  have s1 := HB1.out.size
  have s2 := HB2.out.size
  have s3 := HB3.out.size
  have s4 := HB4.out.size
  have s5 := HB5.out.size
  have s6 := HB6.out.size
  exact ⟨rfl, (((((HB1.out.trans (HB2.out.mono (by omega))).trans (HB3.out.mono (by omega))).trans (HB4.out.mono (by omega))).trans (HB5.out.mono (by omega))).trans (HB6.out.mono (by omega))).trans (HB7.out.mono (by omega))⟩
theorem mac_any (k b : ByteArray) (w : World) (hk : k.size ≤ 10000000) (hb : b.size ≤ 10000000) : Calls Tryz.prog 69 #[.string k, .string b] w fun e w' => e = .returned (.string (hmac k b)) ∧ Below w.heap.size w w' := by
  by_cases h : 64 < k.size
  · exact mac_big k b w hk hb h
  · exact mac_small k b w hk hb h
end Go.Proofs.YtkcfbipnhnboaaaGreat

namespace Go.Proofs.YtkcfbipnhnboaaaGreat
open Go.RowKit

/-- HKDF's first block. -/
def expand32 (k i : ByteArray) : ByteArray := hmac k (i ++ ⟨#[1]⟩)
theorem expand32_size (k i : ByteArray) : (expand32 k i).size = 32 := hmac_size _ _

set_option maxHeartbeats 1000000 in
set_option maxRecDepth 100000 in
theorem expand_any (k i : ByteArray) (w : World) (hk : k.size ≤ 1000000) (hi : i.size ≤ 1000000) : Calls Tryz.prog 104 #[.string k, .string i, .int .i64 32] w fun e w' => e = .returned (.tuple #[.string (expand32 k i), .bool true]) ∧ Below w.heap.size w w' := by
  obtain ⟨o, ho⟩ : ∃ o, expand32 k i = o := ⟨_, rfl⟩
  have hos : o.size = 32 := by rw [← ho]; exact expand32_size _ _
  have hex : o.extract 0 32 = o := by rw [← hos]; exact extract_all o
  have HO : Box _ := ⟨ho⟩
  have hcv : ∀ W : World, (convert 42 9 (.slice (some ⟨W.heap.size, 0, none⟩) 1 1)).run Tryz.prog (W.alloc (.cells #[.int .u8 1] 5)) = .ok (.string ⟨#[1]⟩) (W.alloc (.cells #[.int .u8 1] 5)) := fun W =>
    run_string_of_blk 42 9 5 Tryz.underlying42 Tryz.underlying5 Tryz.underlying9 (l := [1]) (Blk.new W _) 1 1 rfl
  have hc1 : ¬ (9223372036854775807 < i.size + 1) := by omega
  clear ho
  go_enter Tryz.func104, Tryz.ntmps104
  go_wp2
  go_loopw [8, 9, 10] (fun a b j wr => ∃ q : Nat, q ≤ 1 ∧ a = .string (if q = 0 then ⟨#[]⟩ else o) ∧ b = .string (if q = 0 then ⟨#[]⟩ else o) ∧ j = .int .i64 ((q + 1 : Nat) : Int) ∧ Box (Below w.heap.size w wr)) (fun _ _ j _ => 5 - (intOf j).toNat)
  case atStart => exact ⟨0, by omega, rfl, rfl, rfl, ⟨Below.refl _ _⟩⟩
  case round =>
    obtain ⟨q, hq, rfl, rfl, rfl, HB⟩ := hrel
    obtain rfl | rfl : q = 0 ∨ q = 1 := by omega
    · simp only [if_true]
      go_wp2_with fail
      refine (mac_any k _ _ (by omega) (by simp only [ByteArray.size_append]; show 0 + i.size + 1 ≤ _; omega)).mono ?_
      rintro e w1 ⟨rfl, hb1⟩
      have HB1 : Box _ := ⟨hb1⟩
      have hs1 := HB.out.size
      have e0 : (⟨#[]⟩ : ByteArray) ++ i = i := ByteArray.empty_append
      rw [e0, show hmac k (i ++ ⟨#[1]⟩) = o from HO.out]
      clear hb1 e0
      go_wp2
      have e1 : (⟨#[]⟩ : ByteArray) ++ o = o := ByteArray.empty_append
      refine ⟨⟨1, by omega, by first | rfl | (rw [e1]; rfl), rfl, by go_num, ⟨?_⟩⟩, by simp [intOf]⟩
      exact (HB.out.alloc (by omega) _).trans (HB1.out.mono (by simp; omega))
    · simp only [if_neg (show ¬ (1 : Nat) = 0 by decide)]
      go_wp2
      go_ret2
      rw [HO.out]
      exact ⟨rfl, HB.out⟩

set_option maxHeartbeats 1000000 in
set_option maxRecDepth 100000 in
theorem extract_any (s k : ByteArray) (w : World) (hk : s.size ≤ 1000000) (hi : k.size ≤ 1000000) : Calls Tryz.prog 105 #[.string s, .string k] w fun e w' => e = .returned (.string (hmac s k)) ∧ Below w.heap.size w w' := by
  obtain ⟨o, ho⟩ : ∃ o, hmac s k = o := ⟨_, rfl⟩
  have HO : Box _ := ⟨ho⟩
  go_enter Tryz.func105, Tryz.ntmps105
  go_wp2_with fail
  refine (mac_any s k _ (by omega) (by omega)).mono ?_
  rintro e w1 ⟨rfl, hb1⟩
  rw [ho]
  have HB1 : Box _ := ⟨hb1⟩
  clear hb1 ho
  go_wp2
  go_ret
  rw [HO.out]
  exact ⟨rfl, HB1.out⟩

def keyOf (secret salt info : ByteArray) : ByteArray := expand32 (hmac salt secret) info
theorem keyOf_size (secret salt info : ByteArray) : (keyOf secret salt info).size = 32 := expand32_size _ _

set_option maxHeartbeats 1000000 in
set_option maxRecDepth 100000 in
theorem key_any (s salt i : ByteArray) (w : World) (hk : s.size ≤ 1000000) (hl : salt.size ≤ 1000000) (hi : i.size ≤ 1000000) : Calls Tryz.prog 91 #[.string s, .string salt, .string i] w fun e w' => e = .returned (.string (keyOf s salt i)) ∧ Below w.heap.size w w' := by
  obtain ⟨o, ho⟩ : ∃ o, keyOf s salt i = o := ⟨_, rfl⟩
  obtain ⟨m, hm⟩ : ∃ m, hmac salt s = m := ⟨_, rfl⟩
  have hms : m.size = 32 := by rw [← hm]; exact hmac_size _ _
  have ho2 : expand32 m i = o := by rw [← ho, keyOf, hm]
  have HO : Box _ := ⟨And.intro ho (And.intro ho2 hm)⟩
  clear ho ho2 hm
  go_enter Tryz.func91, Tryz.ntmps91
  go_wp2_with fail
  refine (extract_any salt s _ (by omega) (by omega)).mono ?_
  rintro e w1 ⟨rfl, hb1⟩
  rw [HO.out.2.2]
  have HB1 : Box _ := ⟨hb1⟩
  clear hb1
  go_wp2_with fail
  refine (expand_any m i _ (by omega) (by omega)).mono ?_
  rintro e w2 ⟨rfl, hb2⟩
  rw [HO.out.2.1]
  have HB2 : Box _ := ⟨hb2⟩
  clear hb2
  go_wp2
  go_ret
  rw [HO.out.1]
  exact ⟨rfl, HB1.out.trans (HB2.out.mono HB1.out.size)⟩
end Go.Proofs.YtkcfbipnhnboaaaGreat

namespace Go.Proofs.YtkcfbipnhnboaaaGreat
open Go.RowKit

/-- (*atomic.Int64).Load. -/
theorem i64Load (a : Addr) (d : Int) (w : World) (h0 : w.cell? a = some (.int .i64 d)) :
    Calls Tryz.prog 51 #[.pointer (some a)] w fun e w' => e = .returned (.int .i64 d) ∧ w = w' := by
  have hl := run_call_load (P := Tryz.prog) Tryz.func71 (by kernel_rfl) (by kernel_rfl) (by kernel_rfl) .i64 (by kernel_rfl) h0
  go_enter Tryz.func51, Tryz.ntmps51
  go_wp2
  go_ret
  exact ⟨rfl, rfl⟩
/-- (*atomic.Int64).Add, where the sum fits. -/
theorem i64Add (a : Addr) (d x : Int) (w : World) (h0 : w.cell? a = some (.int .i64 d)) (hf : w.frozen? a = false) (hx : IntKind.i64.wrap (d + x) = d + x) :
    Calls Tryz.prog 62 #[.pointer (some a), .int .i64 x] w fun e w' => e = .returned (.int .i64 (d + x)) ∧ w' = w.setCell a (.int .i64 (d + x)) := by
  have hl := run_call_add (P := Tryz.prog) (w := w) Tryz.func88 (by kernel_rfl) (by kernel_rfl) (by kernel_rfl) .i64 (by kernel_rfl) (y := x) (s := d + x) h0 hf (by show Result.ok (Value.int .i64 (IntKind.i64.wrap (d + x))) w = _; rw [hx])
  go_enter Tryz.func62, Tryz.ntmps62
  go_wp2
  go_ret
  exact ⟨rfl, rfl⟩
/-- (*atomic.Int64).Store. -/
theorem i64Store (a : Addr) (x : Int) (u : Value) (w : World) (h0 : w.cell? a = some u) (hf : w.frozen? a = false) :
    Calls Tryz.prog 47 #[.pointer (some a), .int .i64 x] w fun e w' => e = .returned (.tuple #[]) ∧ w' = w.setCell a (.int .i64 x) := by
  have hl := run_call_store (P := Tryz.prog) (w := w) Tryz.func67 (by kernel_rfl) (by kernel_rfl) (by kernel_rfl) (by kernel_rfl) (k := .i64) (y := x) h0 hf
  go_enter Tryz.func47, Tryz.ntmps47
  go_wp2
  go_end0
  exact ⟨rfl, rfl⟩
end Go.Proofs.YtkcfbipnhnboaaaGreat

namespace Go.Proofs.YtkcfbipnhnboaaaGreat
open Go.RowKit

def diffs (x : ByteArray) (k : Nat) : Nat := ((List.range k).filter fun i => byteAt x i != 0).length
theorem diffs_succ (x : ByteArray) (k : Nat) : diffs x (k + 1) = diffs x k + (if byteAt x k = 0 then 0 else 1) := by
  rw [diffs, List.range_succ, List.filter_append, List.length_append, diffs]
  congr 1
  by_cases h : byteAt x k = 0 <;> simp [h]
theorem diffs_le (x : ByteArray) (k : Nat) : diffs x k ≤ k := by
  have := List.length_filter_le (fun i => byteAt x i != 0) (List.range k)
  rwa [List.length_range] at this
theorem byteAt_strOf (l : List Nat) (i : Nat) (h : i < l.length) (h2 : l[i] < 256) : byteAt (strOf l) i = l[i] := by
  simp only [byteAt, strOf]
  rw [List.getD_eq_getElem?_getD, List.getElem?_map, List.getElem?_eq_getElem h]
  simp only [Option.map_some, Option.getD_some]
  exact Nat.mod_eq_of_lt h2
theorem byteAt_ext {a b : ByteArray} (hs : a.size = b.size) (h : ∀ i, i < a.size → byteAt a i = byteAt b i) : a = b := by
  apply ByteArray.ext
  apply Array.ext hs
  intro i h1 h2
  have h3 := h i h1
  rw [← byteAt_get a i h1, ← byteAt_get b i (hs ▸ h1)] at h3
  exact UInt8.toNat_inj.1 h3
theorem same_iff (a b : ByteArray) : (diffs (xorB a b) (min a.size b.size) = 0 ∧ a.size = b.size) ↔ a = b := by
  have hget : ∀ i, i < min a.size b.size → byteAt (xorB a b) i = byteAt a i ^^^ byteAt b i := by
    intro i hi
    have hl : (xorL a b (min a.size b.size)).length = min a.size b.size := by simp [xorL]
    have hv : (xorL a b (min a.size b.size))[i]'(by omega) = byteAt a i ^^^ byteAt b i := by simp [xorL]
    rw [xorB, byteAt_strOf _ i (by omega) (by rw [hv]; exact Nat.xor_lt_two_pow (n := 8) (byteAt_lt _ _) (byteAt_lt _ _)), hv]
  constructor
  · rintro ⟨h, hs⟩
    refine byteAt_ext hs (fun i hi => ?_)
    have hm : i < min a.size b.size := by omega
    have h0 : byteAt (xorB a b) i = 0 := by
      by_cases hz : byteAt (xorB a b) i = 0
      · exact hz
      · exfalso
        have hmem : i ∈ (List.range (min a.size b.size)).filter fun i => byteAt (xorB a b) i != 0 := by
          rw [List.mem_filter]
          exact ⟨List.mem_range.2 hm, by simpa using hz⟩
        have := List.length_pos_of_mem hmem
        rw [diffs] at h
        omega
    rw [hget i hm] at h0
    have h1 : byteAt a i ^^^ byteAt b i ^^^ byteAt b i = 0 ^^^ byteAt b i := by rw [h0]
    rw [Nat.xor_assoc, Nat.xor_self, Nat.xor_zero, Nat.zero_xor] at h1
    exact h1
  · rintro rfl
    refine ⟨?_, rfl⟩
    rw [diffs, List.length_eq_zero_iff, List.filter_eq_nil_iff]
    intro i hi
    rw [List.mem_range] at hi
    rw [hget i hi]
    simp

set_option maxHeartbeats 1000000 in
set_option maxRecDepth 100000 in
theorem same_any (a b : ByteArray) (w : World) (ha : a.size ≤ 1000000000) (hb : b.size ≤ 1000000000) : Calls Tryz.prog 53 #[.string a, .string b] w fun e w' => e = .returned (.bool (decide (a = b))) ∧ Below w.heap.size w w' := by
  have hiff := same_iff a b
  have hsz := xorB_size a b
  obtain ⟨n, hn⟩ : ∃ n, min a.size b.size = n := ⟨_, rfl⟩
  obtain ⟨s, hs⟩ : ∃ s, xorB a b = s := ⟨_, rfl⟩
  rw [hn, hs] at hiff
  rw [hn, hs] at hsz
  have HS : Box _ := ⟨And.intro hs hiff⟩
  have hnl : n ≤ 1000000000 := by omega
  have hcv := fun w => Lib.run_convert_string_bytes (P := Tryz.prog) w 9 42 5 s Tryz.underlying9 Tryz.underlying42 Tryz.underlying5
  clear hiff hn hs
  go_enter Tryz.func53, Tryz.ntmps53
  go_wp2_with fail
  refine (xor_any a b _ ha hb).mono ?_
  rintro e w1 ⟨rfl, hb1⟩
  rw [HS.out.1]
  have hO : Blk w1 w.heap.size 88 #[.int .i64 0] := Blk.below (Blk.new w _) hb1
  have hbw : Below w.heap.size w w1 := ((Below.refl _ _).alloc (Nat.le_refl _) _).trans (hb1.mono (by simp))
  have hl1 := Blk.lt hO
  have hO2 : Blk (Lib.bytesWorld w1 5 s) w.heap.size 88 #[.int .i64 0] := (Lib.bytesWorld_at_old w1 _ s _ hl1).trans hO
  have hrow := fun j (hj : j < n) => Lib.bytesWorld_cell w1 5 s j (by rw [hsz]; exact hj)
  have hbw2 : Below w.heap.size w (Lib.bytesWorld w1 5 s) := bytes_below hbw (by omega) _ _
  have H1 : Box _ := ⟨And.intro hO2 (And.intro hrow hbw2)⟩
  clear hb1 hO hbw hO2 hrow hbw2
  go_wp2
  go_loopw [13] (fun i wr => ∃ k : Nat, k ≤ n ∧ i = .int .i64 (k : Int) ∧ Box (Blk wr w.heap.size 88 #[.int .i64 (diffs s k : Nat)]) ∧ Box (∀ j, j < n → wr.cell? ⟨w1.heap.size, j, none⟩ = some (.int .u8 (s.data.toList.getD j 0).toNat)) ∧ Box (Below w.heap.size w wr)) (fun i _ => n - (intOf i).toNat)
  case atStart => exact ⟨0, by omega, rfl, ⟨H1.out.1⟩, ⟨H1.out.2.1⟩, ⟨H1.out.2.2⟩⟩
  case round =>
    obtain ⟨k, hk, rfl, HK, HR, HB⟩ := hrel
    have hdl := diffs_le s k
    obtain ⟨d, hd⟩ : ∃ d, diffs s k = d := ⟨_, rfl⟩
    rw [hd] at HK hdl
    have HD : Box _ := ⟨hd⟩
    clear hd
    by_cases hlt : k < n
    · have hc := HR.out k hlt
      obtain ⟨c, hcc⟩ : ∃ c : Nat, (s.data.toList.getD k 0).toNat = c := ⟨_, rfl⟩
      rw [hcc] at hc
      have HC : Box (byteAt s k = c) := ⟨hcc⟩
      clear hcc
      by_cases h0 : c = 0
      · subst h0
        go_wp2
        exact ⟨⟨k + 1, by omega, by go_num, ⟨by rw [diffs_succ, HD.out, HC.out]; exact HK.out⟩, HR, HB⟩, by simp [intOf]; omega⟩
      · have hne : ((c : Int) == 0) = false := by simp [h0]
        go_wp2_with fail
        refine (i64Add _ (d : Int) 1 _ (Blk.cell HK.out 0) (Blk.free HK.out 0) (IntWalk.i64_in _ (by omega))).mono ?_
        rintro e w2 ⟨rfl, hw2⟩
        have hk2 : Blk w2 w.heap.size 88 #[.int .i64 ((d + 1 : Nat) : Int)] := by rw [hw2]; exact Blk.set HK.out 0 _
        have hr2 : ∀ j, j < n → w2.cell? ⟨w1.heap.size, j, none⟩ = some (.int .u8 (s.data.toList.getD j 0).toNat) := fun j hj => by
          rw [hw2, World.cell?_setCell_other _ _ _ _ (by first | (simp; done) | (simp; omega))]; exact HR.out j hj
        have hb2 : Below w.heap.size w w2 := by rw [hw2]; exact HB.out.setCell (Nat.le_refl _) _
        have H2 : Box _ := ⟨And.intro hk2 (And.intro hr2 hb2)⟩
        clear hw2 hk2 hr2 hb2
        go_wp2
        exact ⟨⟨k + 1, by omega, by go_num, ⟨by rw [diffs_succ, HD.out, HC.out, if_neg h0]; exact H2.out.1⟩, ⟨H2.out.2.1⟩, ⟨H2.out.2.2⟩⟩, by simp [intOf]; omega⟩
    · obtain rfl : k = n := by omega
      go_wp2_with fail
      refine (i64Load _ (d : Int) _ (Blk.cell HK.out 0)).mono ?_
      rintro e w2 ⟨rfl, rfl⟩
      have hiff := HS.out.2
      rw [HD.out] at hiff
      have HIF : Box _ := ⟨hiff⟩
      clear hiff
      go_wp2
      · rename_i hd0
        have he : ((a.size : Int) == (b.size : Int)) = decide (a = b) := by
          by_cases hs : a.size = b.size
          · have := HIF.out.1 ⟨hd0, hs⟩
            simp [this]
          · have hne : ¬ a = b := fun e => hs (by rw [e])
            rw [decide_eq_false hne]
            simp only [beq_eq_false_iff_ne, ne_eq]
            omega
        go_ret
        exact ⟨by rw [← he]; rfl, HB.out⟩
      · rename_i hd0
        have hne : ¬ a = b := fun e => hd0 (HIF.out.2 e).1
        go_ret
        exact ⟨by rw [decide_eq_false hne]; rfl, HB.out⟩
end Go.Proofs.YtkcfbipnhnboaaaGreat

namespace Go.Proofs.YtkcfbipnhnboaaaGreat
open Go.RowKit

def upB : ByteArray := ⟨#[117, 112]⟩
def downB : ByteArray := ⟨#[100, 111, 119, 110]⟩

set_option maxHeartbeats 1000000 in
set_option maxRecDepth 100000 in
theorem session_any (s salt : ByteArray) (w : World) (hs : s.size ≤ 1000000) (hl : salt.size ≤ 1000000) : Calls Tryz.prog 73 #[.string s, .string salt] w fun e w' => e = .returned (.agg #[.string (keyOf s salt upB), .string (keyOf s salt downB)]) ∧ Below w.heap.size w w' := by
  have HU : Box (∀ W : World, Calls Tryz.prog 91 #[.string s, .string salt, .string ⟨#[117, 112]⟩] W fun e w' => e = .returned (.string (keyOf s salt upB)) ∧ Below W.heap.size W w') := ⟨fun W => key_any s salt upB W hs hl (by decide)⟩
  have HD : Box (∀ W : World, Calls Tryz.prog 91 #[.string s, .string salt, .string ⟨#[100, 111, 119, 110]⟩] W fun e w' => e = .returned (.string (keyOf s salt downB)) ∧ Below W.heap.size W w') := ⟨fun W => key_any s salt downB W hs hl (by decide)⟩
  obtain ⟨u, hu⟩ : ∃ u, keyOf s salt upB = u := ⟨_, rfl⟩
  obtain ⟨d, hd⟩ : ∃ d, keyOf s salt downB = d := ⟨_, rfl⟩
  rw [hu] at HU
  rw [hd] at HD
  rw [hu, hd]
  clear hu hd
  go_enter Tryz.func73, Tryz.ntmps73
  go_wp2_with fail
  refine (HU.out _).mono ?_
  rintro e w1 ⟨rfl, hb1⟩
  have HB1 : Box _ := ⟨hb1⟩
  clear hb1
  go_wp2_with fail
  refine (HD.out _).mono ?_
  rintro e w2 ⟨rfl, hb2⟩
  have hR : Blk w2 w.heap.size 44 #[.string ⟨#[]⟩, .string ⟨#[]⟩] := Blk.below (Blk.below (Blk.new w _) HB1.out) hb2
  have HB2 : Box _ := ⟨And.intro hb2 hR⟩
  have c0 : w2.cell? ⟨w.heap.size, 0, none⟩ = some (.string ⟨#[]⟩) := Blk.cell hR 0
  have c1 : w2.cell? ⟨w.heap.size, 1, none⟩ = some (.string ⟨#[]⟩) := Blk.cell hR 1
  have f0 : w2.frozen? ⟨w.heap.size, 0, none⟩ = false := Blk.free hR 0
  have f1 : w2.frozen? ⟨w.heap.size, 1, none⟩ = false := Blk.free hR 1
  clear hb2 hR
  go_wp2
  have h3 := Blk.set (Blk.set HB2.out.2 0 (.string u)) 1 (.string d)
  refine bodyPost_ret (results_cell_row (P := Tryz.prog) Tryz.results73 _ _ w.heap.size 44 #[.string u, .string d] (0, 0) _ rfl h3 Tryz.underlying44 rfl (by kernel_rfl)) rfl ⟨rfl, ?_⟩
  have s1 := HB1.out.size
  simp at s1
  exact ((((Below.refl w.heap.size w).alloc (Nat.le_refl _) _).trans (HB1.out.mono (by simp))).trans (HB2.out.1.mono (by omega))).setCell (Nat.le_refl _) _ |>.setCell (Nat.le_refl _) _
end Go.Proofs.YtkcfbipnhnboaaaGreat
