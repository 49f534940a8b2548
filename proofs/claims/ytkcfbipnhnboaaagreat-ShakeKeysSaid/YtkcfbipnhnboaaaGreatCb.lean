/- Rows that the call itself has made, appended to: small laws of this session over the kit's append law. append to a row that the call has made: the new value owns what is there, and the old value still owns what it held. sync.Mutex, sync.Once and sync/atomic in one goroutine: each method's contract over this translation. Zeros: the reference's zeros; strings.Repeat of a zero byte. Lists that are kept: rows that lie apart (for the book of the statements); no function of the program is spoken of here. Package octet: digits. Package digest: words, the table. Package digest: the table, made once. -/
import Derived.Test.YtkcfbipnhnboaaaGreatCa
import Derived.Deep.RegionLaw
import Derived.Conc.MuLone
import Derived.Defers
import Derived.Laws.LoneSync
import Derived.RegionCalls
import Derived.Test.YtkcfbipnhnboaaaGreatShelf
import Derived.Lib.OwnKind

namespace Go.Proofs.YtkcfbipnhnboaaaGreat
open Go.RowKit

theorem own_base {w : World} {base : Nat} {e : TypeId} {size n : Nat} {v : Value} {xs : List Value} (h : w.ownsRow base e size v n xs) (k : Nat) (hk : v.ownBlock = some k) : base ≤ k := (World.ownsRow.lt h k hk).1
theorem own_lt {w : World} {base : Nat} {e : TypeId} {size n : Nat} {v : Value} {xs : List Value} (h : w.ownsRow base e size v n xs) (k : Nat) (hk : v.ownBlock = some k) : k < w.heap.size := (World.ownsRow.lt h k hk).2
theorem own_slice {w : World} {base n : Nat} {e : TypeId} {size : Nat} {v : Value} {xs : List Value} (h : w.ownsRow base e size v n xs) : ∃ A c, v = .slice A n c := by
  rcases h.2 with ⟨rfl, rfl⟩ | ⟨g, cap, cur, rfl, _⟩
  · exact ⟨none, 0, rfl⟩
  · exact ⟨_, cap, rfl⟩
theorem own_nil (W : World) (base : Nat) (e : TypeId) (size : Nat) : W.ownsRow base e size (.slice none 0 0) 0 [] := World.ownsRow_nil W base e size
theorem own_below {w w1 : World} {base : Nat} {e : TypeId} {size n : Nat} {v : Value} {xs : List Value} (h : w.ownsRow base e size v n xs) (hb : Below w.heap.size w w1) : w1.ownsRow base e size v n xs := by
  refine World.ownsRow.kept (row := none) h ⟨hb.os, hb.tape, hb.output, hb.size, fun i hi _ => hb.block i hi⟩ ?_
  cases hv : v.ownBlock <;> simp
theorem own_pos {w : World} {base n : Nat} {e : TypeId} {size : Nat} {v : Value} {xs : List Value} (h : w.ownsRow base e size v n xs) (hn : 0 < n) : ∃ g c, v = .slice (some ⟨g, 0, none⟩) n c := by
  rcases h.2 with ⟨_, h0⟩ | ⟨g, cap, cur, rfl, _⟩
  · omega
  · exact ⟨g, cap, rfl⟩
theorem own_weaken {w : World} {base base' : Nat} {e : TypeId} {size n : Nat} {v : Value} {xs : List Value} (h : w.ownsRow base e size v n xs) (hb : base' ≤ base) : w.ownsRow base' e size v n xs := by
  refine ⟨h.1, ?_⟩
  rcases h.2 with h2 | ⟨g, cap, cur, hv, hg, r⟩
  · exact Or.inl h2
  · exact Or.inr ⟨g, cap, cur, hv, Nat.le_trans hb hg, r⟩
theorem blk_grown {w w1 : World} {g : Nat} {o : Obj} {row : Option Nat} (h : w.heap[g]? = some o) (hg : w.grownBy w1 row) (hne : some g ≠ row) : w1.heap[g]? = some o := (hg.block g (Blk.lt h) hne).trans h

section
variable {P : Program} {w : World}
/-- append, as one step of a region that draws its order. -/
theorem step_append_own {ops : Array Oper} {o : Oper} {a : Act} {K : Act → World → Prop} {Q : Exit → Act → World → Prop} {E : Prop} (hgd : o.guard = none) (s x : Operand) (t : TypeId)
    (ho : o.op = .call { callee := .builtin .append, args := #[s, x], argTypes := #[t, t] })
    (base : Nat) (e : TypeId) (z : Value) (size bytes : Nat) (ht : P.underlying t = some (.slice e)) (hinfo : (P.info? e).map (fun i => (i.zero, i.size, i.bytes)) = some (some z, size, bytes))
    (hzs : z.cells.size = size) (hsz : 0 < size)
    (v : Value) (n : Nat) (xs : List Value) (hs : a.eval s = v) (hown : w.ownsRow base e size v n xs)
    (ad : Addr) (m c : Nat) (news : List Value) (hx : a.eval x = .slice (some ad) m c) (hl : news.length = m * size) (hnews : ∀ j u, news[j]? = some u → w.cell? (ad.add j) = some u) (h1 : ∀ u ∈ news, u.oneCell' = true)
    (h63 : n + m ≤ 1099511627776) (hbytes : bytes ≤ 128) (hbase : base ≤ w.heap.size)
    (h : ∀ v' w', w'.ownsRow base e size v' (n + m) (xs ++ news) → w.grownBy w' v.ownBlock → K (a.put o.dst v') w') :
    if Region.wanted o (yielded ops a.tmps) = true then Oper.wp P o a w K Q else E := by
  rw [if_pos (show Region.wanted o (yielded ops a.tmps) = true by simp [Region.wanted, hgd])]
  obtain ⟨i, hi, hz, hz1, hz2⟩ := info_parts hinfo
  have hb : (n + m) * bytes ≤ 140737488355328 := Nat.le_trans (Nat.mul_le_mul h63 hbytes) (by decide)
  exact wp_append_own w s x t ho base e i z size bytes ht hi hz hz1 hz2 hzs hsz v n xs hs hown ad m c news hx hl hnews h1 (by unfold maxLen; omega) hb hbase fun v' w' h2 h3 _ => h v' w' h2 h3
/-- append, in a list of operations. -/
theorem list_append_own {ops : Array Oper} {rest : List Oper} {o : Oper} {a : Act} {Q : Exit → Act → World → Prop} (hgd : o.guard = none) (s x : Operand) (t : TypeId)
    (ho : o.op = .call { callee := .builtin .append, args := #[s, x], argTypes := #[t, t] })
    (base : Nat) (e : TypeId) (z : Value) (size bytes : Nat) (ht : P.underlying t = some (.slice e)) (hinfo : (P.info? e).map (fun i => (i.zero, i.size, i.bytes)) = some (some z, size, bytes))
    (hzs : z.cells.size = size) (hsz : 0 < size)
    (v : Value) (n : Nat) (xs : List Value) (hs : a.eval s = v) (hown : w.ownsRow base e size v n xs)
    (ad : Addr) (m c : Nat) (news : List Value) (hx : a.eval x = .slice (some ad) m c) (hl : news.length = m * size) (hnews : ∀ j u, news[j]? = some u → w.cell? (ad.add j) = some u) (h1 : ∀ u ∈ news, u.oneCell' = true)
    (h63 : n + m ≤ 1099511627776) (hbytes : bytes ≤ 128) (hbase : base ≤ w.heap.size)
    (h : ∀ v' w', w'.ownsRow base e size v' (n + m) (xs ++ news) → w.grownBy w' v.ownBlock → wpList P ops Q rest (a.put o.dst v') w') : wpList P ops Q (o :: rest) a w := by
  obtain ⟨i, hi, hz, hz1, hz2⟩ := info_parts hinfo
  have hb : (n + m) * bytes ≤ 140737488355328 := Nat.le_trans (Nat.mul_le_mul h63 hbytes) (by decide)
  exact wpList_append_own w hgd s x t ho base e i z size bytes ht hi hz hz1 hz2 hzs hsz v n xs hs hown ad m c news hx hl hnews h1 (by unfold maxLen; omega) hb hbase fun v' w' h2 h3 _ => h v' w' h2 h3
end
end Go.Proofs.YtkcfbipnhnboaaaGreat

namespace Go.Proofs.YtkcfbipnhnboaaaGreat
open Go.RowKit
section
variable {P : Program} (w : World)
theorem run_append_keep (base : Nat) (t ty e : TypeId) (z : Value) (bytes : Nat) (ht : P.underlying t = some (.slice e)) (hinfo : (P.info? e).map (fun i => (i.zero, i.size, i.bytes)) = some (some z, 1, bytes))
    (hzs : z.cells.size = 1) (v : Value) (n : Nat) (xs : List Value) (hown : w.ownsRow base e 1 v n xs)
    (a : Addr) (m c : Nat) (news : List Value) (hl : news.length = m) (hnews : ∀ j u, news[j]? = some u → w.cell? (a.add j) = some u) (h1 : ∀ u ∈ news, u.oneCell' = true)
    (h63 : n + m ≤ 1099511627776) (hbytes : bytes ≤ 128) (hbase : base ≤ w.heap.size) :
    ∃ v' w', (Builtin.append_ #[t, t] ty #[v, .slice (some a) m c]).run P w = .ok v' w' ∧ w'.ownsRow base e 1 v' (n + m) (xs ++ news) ∧ w'.ownsRow base e 1 v n xs ∧ w.grownBy w' v.ownBlock ∧
      (v'.ownBlock = v.ownBlock ∨ (v'.ownBlock = some w.heap.size ∧ w.grownBy w' none)) := by
  obtain ⟨i, hi, hz, hz1, hz2⟩ := info_parts hinfo
  have hb : (n + m) * bytes ≤ 140737488355328 := Nat.le_trans (Nat.mul_le_mul h63 hbytes) (by decide)
  have hsmall : n + m ≤ 9223372036854775807 := by omega
  have hlen : (xs ++ news).length = (n + m) * 1 := by rw [List.length_append, hown.1, hl]; omega
  have grown : ∀ (old : Nat), old < n + m → 
      (w.drew.alloc (.cells (xs.toArray ++ news.toArray ++ Builtin.zeroCells z.cells (grownCap w (n + m) old e - (n + m))) e)).ownsRow base e 1
        (.slice (some ⟨w.heap.size, 0, none⟩) (n + m) (grownCap w (n + m) old e)) (n + m) (xs ++ news) ∧
      w.grownBy (w.drew.alloc (.cells (xs.toArray ++ news.toArray ++ Builtin.zeroCells z.cells (grownCap w (n + m) old e - (n + m))) e)) none := by
    intro old ho
    have hge := grownCap_ge w (n + m) old e
    have hcm : grownCap w (n + m) old e ≤ maxLen := grownCap_le_maxLen w (n + m) old e (by unfold maxLen; omega)
    refine ⟨⟨hlen, .inr ⟨w.heap.size, _, _, rfl, hbase, heap_alloc_new w.drew _, hge, hcm, ?_, ?_⟩⟩, ⟨rfl, rfl, rfl, by simp, fun k hk _ => heap_alloc_old w.drew _ hk⟩⟩
    · simp only [Array.size_append, List.size_toArray, size_zeroCells, hzs, hown.1, hl]
      omega
    · simp only [Array.toList_append, List.append_assoc]
      rw [← List.append_assoc, ← hlen]
      exact List.take_left
  have wide : ∀ {w'}, w.grownBy w' none → w.grownBy w' v.ownBlock := fun h => ⟨h.os, h.tape, h.output, h.size, fun k hk _ => h.block k hk (by simp)⟩
  have keep : ∀ {w'}, w.grownBy w' none → w'.ownsRow base e 1 v n xs := fun h => World.ownsRow.kept hown h (by cases v.ownBlock <;> simp)
  rcases hown.2 with ⟨rfl, rfl⟩ | ⟨g, cap, cur, rfl, hbg, hg, hnc, hcm, hcs, htake⟩
  · have hx : xs = [] := List.eq_nil_of_length_eq_zero (by simpa using hown.1)
    subst hx
    by_cases hm : m = 0
    · subst hm
      have hn : news = [] := List.eq_nil_of_length_eq_zero hl
      subst hn
      refine ⟨.slice none 0 0, w, ?_, World.ownsRow_nil w base e 1, World.ownsRow_nil w base e 1, ⟨rfl, rfl, rfl, Nat.le_refl _, fun _ _ _ => rfl⟩, .inl rfl⟩
      simp [Builtin.append_, run_underlying ht, sizeOf, typeInfo, hi, Builtin.lenOf, Builtin.firstCells, loadCells, loadCellsFrom]
    · have hr := run_append_nil (P := P) w t ty e i z ht hi hz a m c news (by rw [hz1]; omega) hnews (by omega) (by omega) (by rw [hz2]; rw [Nat.zero_add] at hb; omega)
      have hgr := grown 0 (by omega)
      simp only [Nat.zero_add, List.nil_append, Array.empty_append] at hgr ⊢
      exact ⟨_, _, hr, hgr.1, keep hgr.2, wide hgr.2, .inr ⟨rfl, hgr.2⟩⟩
  · by_cases hroom : n + m ≤ cap
    · have hfit : n * i.size + news.length ≤ cur.size := by rw [hl, hcs, hz1]; omega
      have hr := run_append_room (P := P) w t ty e i ht hi g n cap cur hg a m c news (by rw [hz1]; omega) hnews h1 hroom hfit
      have hset := setRow_heap w g cur (cur.toList.take (n * i.size) ++ news ++ cur.toList.drop (n * i.size + news.length)).toArray e (0, 0) hg
      have hsz : (cur.toList.take (n * i.size) ++ news ++ cur.toList.drop (n * i.size + news.length)).toArray.size = cap * 1 := by
        simp only [List.size_toArray, List.length_append, List.length_take, List.length_drop, Array.length_toList]
        omega
      rw [hz1] at hr hset hsz
      refine ⟨_, _, hr, ⟨hlen, .inr ⟨g, cap, _, rfl, hbg, hset, hroom, hcm, hsz, ?_⟩⟩, ⟨hown.1, .inr ⟨g, cap, _, rfl, hbg, hset, hnc, hcm, hsz, ?_⟩⟩, ⟨rfl, rfl, rfl, by simp, fun k hk hne => setRow_other w g k _ (fun e => hne (by simp [Value.ownBlock, e]))⟩, .inl rfl⟩
      · rw [htake, ← hlen]
        exact List.take_left
      · rw [htake, List.append_assoc, ← hown.1]
        exact List.take_left
    · have holds : ∀ j u, xs[j]? = some u → w.cell? ((⟨g, 0, none⟩ : Addr).add j) = some u := hown.cells (g := g) rfl
      have hr := run_append_grow (P := P) w t ty e i z ht hi hz ⟨g, 0, none⟩ n cap xs (by rw [hz1]; exact hown.1) holds a m c news (by rw [hz1]; omega) hnews (by omega) (by omega) (growslice_fits (by omega) (by rw [hz2]; exact hb))
      have hgr := grown cap (by omega)
      exact ⟨_, _, hr, hgr.1, keep hgr.2, wide hgr.2, .inr ⟨rfl, hgr.2⟩⟩
end
end Go.Proofs.YtkcfbipnhnboaaaGreat

namespace Go.Proofs.YtkcfbipnhnboaaaGreat
open Go.RowKit Go.MuLone

abbrev muLink : Go.Conc.Locks.MuLink := { lock := 110, unlock := 111, ilock := 121, iunlock := 122, lockSlow := 135, unlockSlow := 138, disable := 131, enable := 133, acquire := 134, relMerge := 136, cas32 := 132, add32 := 137, tMutex := 119, tIMutex := 117, tPMutex := 180, tPIMutex := 188, tPI32 := 190, tUP := 183, tNoCopy := 112, tU32 := 113 }
theorem muLib : Go.Conc.Locks.MuLib Tryz.prog muLink :=
  ⟨Tryz.func110, Tryz.func111, Tryz.func121, Tryz.func122, Tryz.func131, Tryz.func133, Tryz.func134, Tryz.func136, Tryz.func132, Tryz.func137, Tryz.underlying117, Tryz.runUnderlying117, Tryz.sizeOf117, Tryz.isAgg117, Tryz.zeroValue117, Tryz.underlying119, Tryz.runUnderlying119, Tryz.sizeOf119, Tryz.isAgg119, Tryz.zeroValue119, Tryz.underlying180, Tryz.runUnderlying180, Tryz.sizeOf180, Tryz.isAgg180, Tryz.zeroValue180, Tryz.underlying188, Tryz.runUnderlying188, Tryz.sizeOf188, Tryz.isAgg188, Tryz.zeroValue188, Tryz.underlying190, Tryz.runUnderlying190, Tryz.sizeOf190, Tryz.isAgg190, Tryz.zeroValue190, Tryz.underlying183, Tryz.runUnderlying183, Tryz.sizeOf183, Tryz.isAgg183, Tryz.zeroValue183, Tryz.underlying112, Tryz.runUnderlying112, Tryz.sizeOf112, Tryz.isAgg112, Tryz.zeroValue112, Tryz.underlying21, Tryz.runUnderlying21, Tryz.sizeOf21, Tryz.isAgg21, Tryz.zeroValue21, by kernel_rfl⟩

/-- (*atomic.Bool).Load. -/
theorem boolLoad (a : Addr) (d : Int) (w : World) (h0 : w.cell? a = some (.int .u32 d)) :
    Calls Tryz.prog 96 #[.pointer (some a)] w fun e w' => e = .returned (.bool (d != 0)) ∧ w = w' := by
  have hl := run_call_load (P := Tryz.prog) Tryz.func109 (by kernel_rfl) (by kernel_rfl) (by kernel_rfl) .u32 (by kernel_rfl) h0
  go_enter Tryz.func96, Tryz.ntmps96
  go_wp2
  go_ret
  exact ⟨rfl, rfl⟩

/-- '(*sync/atomic.Bool).Store(true)', entered as a deferred call: the cell holds 1. -/
theorem store_deferred (a : Addr) (x : Value) (u : FrameMode) (w : World) (hc : w.cell? a = some x) (hz : w.frozen? a = false) :
    CallsD Tryz.prog 112 #[.pointer (some a), .bool true] u w fun e u' w' => u' = u ∧ (e = .returned (.tuple #[]) ∧ w' = w.drew.setCell a (.int .u32 1)) := by
  have hc' : w.drew.cell? a = some x := by go_simp
  have hz' : w.drew.frozen? a = false := by go_simp
  have hst := run_call_store (P := Tryz.prog) Tryz.func123 (by kernel_rfl) (by kernel_rfl) (by kernel_rfl) (by kernel_rfl) (k := .u32) (y := 1) hc' hz'
  go_enter_d Tryz.func112, Tryz.ntmps112
  go_wp2
  go_region_calls
  all_goals (go_end0; exact ⟨rfl, rfl⟩)

/-- What the function that Do calls must leave. -/
def OnceMid (b off : Nat) (Q : World → Prop) (e : Ending) (w2 : World) : Prop :=
  e = .returned (.tuple #[]) ∧ w2.cell? ⟨b, off, none⟩ = some (.int .u32 0) ∧ w2.frozen? ⟨b, off, none⟩ = false ∧ w2.cell? ⟨b, off + 1, none⟩ = some (.int .i32 1) ∧ w2.frozen? ⟨b, off + 1, none⟩ = false ∧ Q w2
/-- How Do leaves the world. -/
def OnceEnd (b off : Nat) (Q : World → Prop) (e : Ending) (w' : World) : Prop :=
  e = .returned (.tuple #[]) ∧ ∃ w2, Q w2 ∧ w' = (w2.drew.setCell ⟨b, off, none⟩ (.int .u32 1)).setCell ⟨b, off + 1, none⟩ (.int .i32 0)

set_option maxRecDepth 100000 in
set_option maxHeartbeats 1600000 in
theorem slow_any (b off : Nat) (K : FuncId) (caps : Array Value) (Q : World → Prop) (w : World)
    (h0 : w.cell? ⟨b, off, none⟩ = some (.int .u32 0)) (h1 : w.cell? ⟨b, off + 1, none⟩ = some (.int .i32 0)) (f1 : w.frozen? ⟨b, off + 1, none⟩ = false)
    (hcf : ∀ w, (callFunc K caps).run Tryz.prog w = .ok (.enter K caps) w)
    (hK : Calls Tryz.prog K caps (w.setCell ⟨b, off + 1, none⟩ (.int .i32 1)) (OnceMid b off Q)) :
    Calls Tryz.prog 97 #[.pointer (some ⟨b, off, none⟩), .func (.func K) #[] caps] w (OnceEnd b off Q) := by
  have hl : (w.setCell ⟨b, off + 1, none⟩ (.int .i32 1)).cell? ⟨b, off, none⟩ = some (.int .u32 0) := (World.cell?_setCell_other _ ⟨b, off + 1, none⟩ ⟨b, off, none⟩ _ (by simp)).trans h0
  have hnot : ∀ (x : Bool) (w : World), (Op.unary .not (.bool x)).run Tryz.prog w = .ok (.bool (!x)) w := fun _ _ => rfl
  go_enter_defers Tryz.func97, Tryz.ntmps97
  go_wp2_with (first | (go_at_call 110; refine (lock_free muLib ⟨b, off + 1, none⟩ _ h1 f1).mono ?_; rintro e w' ⟨rfl, rfl⟩) | (go_at_call 96; refine (boolLoad ⟨b, off, none⟩ 0 _ hl).mono ?_; rintro e w' ⟨rfl, rfl⟩))
  refine hK.mono ?_
  rintro e w2 ⟨rfl, g0, z0, g1, z1, hQ⟩
  go_wp2
  refine leaves_cons (f := 112) (args := #[.pointer (some ⟨b, off, none⟩), .bool true]) (by simp) (by simp [go_sem]) ?_
  refine (store_deferred ⟨b, off, none⟩ _ .returning _ g0 z0).mono ?_
  rintro e u' w'' ⟨rfl, rfl, rfl⟩
  refine leaves_cons (f := 111) (args := #[.pointer (some ⟨b, off + 1, none⟩)]) (by simp [settle]) (by simp [go_sem]) ?_
  refine (unlock_deferred muLib ⟨b, off + 1, none⟩ _ _ ?_ (by simp [z1])).mono ?_
  · refine (World.cell?_setCell_other _ ⟨b, off, none⟩ ⟨b, off + 1, none⟩ _ (by simp)).trans ?_
    rw [World.cell?_drew]
    exact g1
  rintro e u' w'' ⟨rfl, rfl, rfl⟩
  simp [Leaves, settle, results, Tryz.results97, OnceEnd]
  exact ⟨w2, hQ, rfl⟩

set_option maxRecDepth 100000 in
set_option maxHeartbeats 1600000 in
/-- Once.Do, the first time. -/
theorem do_first (b off : Nat) (K : FuncId) (caps : Array Value) (Q : World → Prop) (w : World)
    (h0 : w.cell? ⟨b, off, none⟩ = some (.int .u32 0)) (h1 : w.cell? ⟨b, off + 1, none⟩ = some (.int .i32 0)) (f1 : w.frozen? ⟨b, off + 1, none⟩ = false)
    (hcf : ∀ w, (callFunc K caps).run Tryz.prog w = .ok (.enter K caps) w)
    (hK : Calls Tryz.prog K caps (w.setCell ⟨b, off + 1, none⟩ (.int .i32 1)) (OnceMid b off Q)) :
    Calls Tryz.prog 85 #[.pointer (some ⟨b, off, none⟩), .func (.func K) #[] caps] w (OnceEnd b off Q) := by
  have hnot : ∀ (x : Bool) (w : World), (Op.unary .not (.bool x)).run Tryz.prog w = .ok (.bool (!x)) w := fun _ _ => rfl
  go_enter Tryz.func85, Tryz.ntmps85
  go_wp2_with (go_at_call 96; refine (boolLoad ⟨b, off, none⟩ 0 _ h0).mono ?_; rintro e w' ⟨rfl, rfl⟩)
  refine (slow_any b off K caps Q _ h0 h1 f1 hcf hK).mono ?_
  rintro e w' ⟨rfl, hw⟩
  go_wp2
  go_end0
  exact ⟨rfl, hw⟩

/-- Once.Do, done already: the function is not called. -/
theorem do_done (a : Addr) (fv : Value) (w : World) (h0 : w.cell? a = some (.int .u32 1)) :
    Calls Tryz.prog 85 #[.pointer (some a), fv] w fun e w' => e = .returned (.tuple #[]) ∧ w = w' := by
  have hnot : ∀ (x : Bool) (w : World), (Op.unary .not (.bool x)).run Tryz.prog w = .ok (.bool (!x)) w := fun _ _ => rfl
  go_enter Tryz.func85, Tryz.ntmps85
  go_wp2_with (go_at_call 96; refine (boolLoad a 1 _ h0).mono ?_; rintro e w' ⟨rfl, rfl⟩)
  go_end0
  exact ⟨rfl, rfl⟩
end Go.Proofs.YtkcfbipnhnboaaaGreat

namespace Go.Proofs.YtkcfbipnhnboaaaGreat
open Go.RowKit

/-- So many zero bytes. -/
def zerosB (n : Nat) : ByteArray := strOf (List.replicate n 0)
theorem zerosB_size (n : Nat) : (zerosB n).size = n := by simp [zerosB, strOf_size]

set_option maxRecDepth 100000 in
set_option maxHeartbeats 400000 in
theorem refZeros_any (n : Nat) (w : World) (hn : n ≤ 1099511627776) :
    Calls Tryz.prog 70 #[.int .i64 n] w fun e w' => e = .returned (.string (zerosB n)) ∧ Below w.heap.size w w' := by
  have hmk := run_make_ints (P := Tryz.prog) 42 5 .u8 1 Tryz.underlying42 (by kernel_rfl) (by decide) n hn
  have hb : Blk (w.alloc (.cells (Array.replicate n (.int .u8 0)) 5)) w.heap.size 5 (byteCells (List.replicate n 0)) := by rw [byteCells_zero]; exact Blk.new w _
  have hconv := run_string_of_blk (P := Tryz.prog) 42 9 5 Tryz.underlying42 Tryz.underlying5 Tryz.underlying9 hb n n (by simp)
  clear hb
  go_enter Tryz.func70, Tryz.ntmps70
  go_wp2
  go_ret
  exact ⟨rfl, (Below.refl _ _).alloc (Nat.le_refl _) _⟩

theorem repeatL_zero (c : Nat) : (⟨(Lib.repeatL [0] c).toArray⟩ : ByteArray) = zerosB c := by
  have h : ∀ c, Lib.repeatL [0] c = List.replicate c 0 := by
    intro c
    induction c with
    | zero => rfl
    | succ c ih => rw [Lib.repeatL, ih]; rfl
  rw [h, zerosB, strOf]
  congr 2
  simp
theorem repZero_any (c : Nat) (w : World) (hc : c ≤ 1099511627776) :
    Calls Tryz.prog 90 #[.string ⟨#[0]⟩, .int .i64 c] w fun e w' => e = .returned (.string (zerosB c)) ∧ Below w.heap.size w w' := by
  refine (Tryz.strings_Repeat ⟨#[0]⟩ c w (by omega) (by show 1 * c ≤ _; omega)).mono ?_
  rintro e w' ⟨rfl, hb⟩
  exact ⟨by rw [← repeatL_zero], hb⟩
end Go.Proofs.YtkcfbipnhnboaaaGreat

namespace Go.Proofs.YtkcfbipnhnboaaaGreat
open Go.RowKit

section
variable {P : Program} {w : World}
/-- append that keeps, in a list of operations. -/
theorem list_append_keep {ops : Array Oper} {rest : List Oper} {o : Oper} {a : Act} {Q : Exit → Act → World → Prop} (hgd : o.guard = none) (s x : Operand) (t : TypeId)
    (ho : o.op = .call { callee := .builtin .append, args := #[s, x], argTypes := #[t, t] })
    (base : Nat) (e : TypeId) (z : Value) (bytes : Nat) (ht : P.underlying t = some (.slice e)) (hinfo : (P.info? e).map (fun i => (i.zero, i.size, i.bytes)) = some (some z, 1, bytes))
    (hzs : z.cells.size = 1)
    (v : Value) (n : Nat) (xs : List Value) (hs : a.eval s = v) (hown : w.ownsRow base e 1 v n xs)
    (ad : Addr) (m c : Nat) (news : List Value) (hx : a.eval x = .slice (some ad) m c) (hl : news.length = m) (hnews : ∀ j u, news[j]? = some u → w.cell? (ad.add j) = some u) (h1 : ∀ u ∈ news, u.oneCell' = true)
    (h63 : n + m ≤ 1099511627776) (hbytes : bytes ≤ 128) (hbase : base ≤ w.heap.size)
    (h : ∀ v' w', w'.ownsRow base e 1 v' (n + m) (xs ++ news) → w'.ownsRow base e 1 v n xs → w.grownBy w' v.ownBlock → (v'.ownBlock = v.ownBlock ∨ (v'.ownBlock = some w.heap.size ∧ w.grownBy w' none)) → wpList P ops Q rest (a.put o.dst v') w') : wpList P ops Q (o :: rest) a w := by
  obtain ⟨v', w', hr, h2, h3, h4, h5⟩ := run_append_keep (P := P) w base t o.type e z bytes ht hinfo hzs v n xs hown ad m c news hl hnews h1 h63 hbytes hbase
  refine wpList_plain hgd fun _ hK => ?_
  unfold Oper.wp execOp
  simp only [ho, resolve, invoke, builtin, Sem.run_bind, Sem.run_pure, Result.andThen_ok, List.map_toArray, List.map_cons, List.map_nil, hs, hx, hr]
  exact hK _ _ (h v' w' h2 h3 h4 h5)
/-- append of nothing (a nil slice), in a list of operations. -/
theorem list_append_none {ops : Array Oper} {rest : List Oper} {o : Oper} {a : Act} {Q : Exit → Act → World → Prop} (hgd : o.guard = none) (s x : Operand) (t : TypeId)
    (ho : o.op = .call { callee := .builtin .append, args := #[s, x], argTypes := #[t, t] })
    (base : Nat) (e : TypeId) (z : Value) (size bytes : Nat) (ht : P.underlying t = some (.slice e)) (hinfo : (P.info? e).map (fun i => (i.zero, i.size, i.bytes)) = some (some z, size, bytes))
    (v : Value) (n : Nat) (xs : List Value) (hs : a.eval s = v) (hown : w.ownsRow base e size v n xs)
    (hx : a.eval x = .slice none 0 0)
    (h : wpList P ops Q rest (a.put o.dst v) w) : wpList P ops Q (o :: rest) a w := by
  obtain ⟨i, hi, hz, hz1, hz2⟩ := info_parts hinfo
  have hr := run_append_owned_none (P := P) w base t o.type e i size ht hi v n xs hown
  refine wpList_plain hgd fun _ hK => ?_
  unfold Oper.wp execOp
  simp only [ho, resolve, invoke, builtin, Sem.run_bind, Sem.run_pure, Result.andThen_ok, List.map_toArray, List.map_cons, List.map_nil, hs, hx, hr]
  exact hK _ _ h
end

theorem news_one (W : World) (u : Value) (t : TypeId) : ∀ (j : Nat) (x : Value), [u][j]? = some x → (W.alloc (.cells #[u] t)).cell? ((⟨W.heap.size, 0, none⟩ : Addr).add j) = some x := by
  intro j x hj
  match j, hj with
  | 0, hj => simp at hj; subst hj; simp [Addr.add]
theorem news_one_cell (u : Value) (h : u.oneCell' = true) : ∀ x ∈ [u], x.oneCell' = true := by intro x hx; simp at hx; subst hx; exact h
theorem encs_cell {α : Type} (enc : α → Value) (h : ∀ a, (enc a).oneCell' = true) (l : List α) : ∀ x ∈ l.map enc, x.oneCell' = true := by
  intro x hx; obtain ⟨a, _, rfl⟩ := List.mem_map.1 hx; exact h a
theorem own_news {w : World} {B : Nat} {e : TypeId} {n : Nat} {v : Value} {xs : List Value} (h : w.ownsRow B e 1 v n xs) {g : Nat} (hg : v.ownBlock = some g) : ∀ (j : Nat) (x : Value), xs[j]? = some x → w.cell? ((⟨g, 0, none⟩ : Addr).add j) = some x := World.ownsRow.cells h hg

theorem own_forms {w : World} {B : Nat} {e : TypeId} {n : Nat} {v : Value} {xs : List Value} (h : w.ownsRow B e 1 v n xs) : (v = .slice none 0 0 ∧ n = 0) ∨ ∃ g c, v = .slice (some ⟨g, 0, none⟩) n c := by
  rcases h.2 with h0 | ⟨g, cap, cur, rfl, _⟩
  · exact .inl h0
  · exact .inr ⟨g, cap, rfl⟩

theorem own_prefix {w w2 : World} {B : Nat} {e : TypeId} {v v1 : Value} {n m : Nat} {xs ys : List Value} (h : w.ownsRow B e 1 v n xs) (h1 : w.ownsRow B e 1 v1 m (xs ++ ys)) (he : v1.ownBlock = v.ownBlock) (h2 : w2.ownsRow B e 1 v1 m (xs ++ ys)) : w2.ownsRow B e 1 v n xs := by
  refine ⟨h.1, ?_⟩
  rcases h.2 with hn | ⟨g, cap, cur, rfl, hb, hg, hnc, hcm, hcs, ht⟩
  · exact .inl hn
  · rcases h1.2 with ⟨rfl, _⟩ | ⟨g1, cap1, cur1, rfl, hb1, hg1, hnc1, hcm1, hcs1, ht1⟩
    · simp [Value.ownBlock] at he
    · simp only [Value.ownBlock, Option.some.injEq] at he
      subst he
      rw [hg] at hg1
      simp only [Option.some.injEq, Obj.cells.injEq, and_true] at hg1
      subst hg1
      have hc : cap1 = cap := by omega
      subst hc
      rcases h2.2 with ⟨hbad, _⟩ | ⟨g2, cap2, cur2, hv2, hb2, hg2, hnc2, hcm2, hcs2, ht2⟩
      · simp at hbad
      · simp only [Value.slice.injEq, Option.some.injEq, Addr.mk.injEq, and_true, true_and] at hv2
        obtain ⟨rfl, rfl⟩ := hv2
        refine .inr ⟨g1, cap1, cur2, rfl, hb, hg2, hnc, hcm, hcs2, ?_⟩
        have hl := h.1
        have hl1 := h1.1
        rw [List.length_append] at hl1
        have : (cur2.toList.take (m * 1)).take (n * 1) = xs := by rw [ht2, ← hl]; exact List.take_left
        rwa [List.take_take, Nat.min_eq_left (by omega)] at this

theorem grown_trans {w w1 w2 : World} {r r2 : Option Nat} (h : w.grownBy w1 r) (h2 : w1.grownBy w2 r2) (hr : ∀ k, r2 = some k → r = some k ∨ w.heap.size ≤ k) : w.grownBy w2 r :=
  ⟨h2.os.trans h.os, h2.tape.trans h.tape, h2.output.trans h.output, Nat.le_trans h.size h2.size, fun k hk hne => (h2.block k (Nat.lt_of_lt_of_le hk h.size) (fun e => by rcases hr k e.symm with e1 | e1; exact hne e1.symm; omega)).trans (h.block k hk hne)⟩
theorem grown_refl (w : World) (r : Option Nat) : w.grownBy w r := ⟨rfl, rfl, rfl, Nat.le_refl _, fun _ _ _ => rfl⟩
theorem grown_below {w w1 : World} (h : Below w.heap.size w w1) (r : Option Nat) : w.grownBy w1 r := ⟨h.os, h.tape, h.output, h.size, fun k hk _ => h.block k hk⟩
theorem grown_set (w : World) (p : Addr) (u : Value) : w.grownBy (w.setCell p u) (some p.block) := ⟨rfl, rfl, rfl, by simp, fun k _ hk => heap_setCell_other w p k u (fun e => hk (by simp [e]))⟩
theorem below_of_grown {B : Nat} {w w1 : World} {r : Option Nat} (h : w.grownBy w1 r) (hB : B ≤ w.heap.size) (hr : ∀ k, r = some k → B ≤ k) : Below B w w1 := (Below.refl B w).grown h hB hr

/-- v has grown to v1 while the world went from w0 to w; v reads as it did. -/
structure Grew (w0 w : World) (B : Nat) (e : TypeId) (v : Value) (n : Nat) (xs : List Value) (v1 : Value) (ys : List Value) : Prop where
  old : w.ownsRow B e 1 v n xs
  new : w.ownsRow B e 1 v1 (n + ys.length) (xs ++ ys)
  grown : w0.grownBy w v.ownBlock
  at_ : v1.ownBlock = v.ownBlock ∨ ∃ g, v1.ownBlock = some g ∧ w0.heap.size ≤ g
theorem Grew.start {w : World} {B : Nat} {e : TypeId} {v : Value} {n : Nat} {xs : List Value} (h : w.ownsRow B e 1 v n xs) : Grew w w B e v n xs v [] := ⟨h, by simpa using h, grown_refl _ _, .inl rfl⟩
theorem Grew.below {w0 w w1 : World} {B : Nat} {e : TypeId} {v v1 : Value} {n : Nat} {xs ys : List Value} (h : Grew w0 w B e v n xs v1 ys) (hb : Below w.heap.size w w1) : Grew w0 w1 B e v n xs v1 ys :=
  ⟨own_below h.old hb, own_below h.new hb, grown_trans h.grown (grown_below hb none) (by simp), h.at_⟩
theorem Grew.app {w0 w w1 : World} {B : Nat} {e : TypeId} {v v1 v2 : Value} {n m : Nat} {xs ys news : List Value} (h : Grew w0 w B e v n xs v1 ys) (hn : news.length = m)
    (h1 : w1.ownsRow B e 1 v2 (n + ys.length + m) (xs ++ ys ++ news)) (h2 : w1.ownsRow B e 1 v1 (n + ys.length) (xs ++ ys)) (h3 : w.grownBy w1 v1.ownBlock)
    (h4 : v2.ownBlock = v1.ownBlock ∨ (v2.ownBlock = some w.heap.size ∧ w.grownBy w1 none)) : Grew w0 w1 B e v n xs v2 (ys ++ news) := by
  have hlt := own_lt h.old
  have hsz := h.grown.size
  refine ⟨?_, by rw [List.length_append, hn, ← Nat.add_assoc, ← List.append_assoc]; exact h1, grown_trans h.grown h3 ?_, ?_⟩
  · by_cases he : v1.ownBlock = v.ownBlock
    · exact own_prefix h.old h.new he h2
    · exact World.ownsRow.kept h.old h3 (.inr (fun e => he e.symm))
  · intro k hk
    rcases h.at_ with e | ⟨g, hg, hge⟩
    · exact .inl (e ▸ hk)
    · rw [hg] at hk; cases hk; exact .inr hge
  · rcases h4 with e | ⟨e, _⟩
    · rw [e]; exact h.at_
    · exact .inr ⟨_, e, hsz⟩

section
variable {α : Type} {w w1 : World} {B : Nat} {e : TypeId} {enc : α → Value} {vs : List Value} {xss : List (List α)}
/-- The rows vs hold xss, each in a block of its own. -/
structure Kept (w : World) (B : Nat) (e : TypeId) (enc : α → Value) (vs : List Value) (xss : List (List α)) : Prop where
  len : vs.length = xss.length
  own : ∀ (i : Nat) (v : Value) (xs : List α), vs[i]? = some v → xss[i]? = some xs → w.ownsRow B e 1 v xs.length (xs.map enc)
  apart : ∀ (i j : Nat) (v u : Value), vs[i]? = some v → vs[j]? = some u → i ≠ j → ∀ g, v.ownBlock = some g → u.ownBlock ≠ some g
theorem Kept.nil (w : World) (B : Nat) (e : TypeId) (enc : α → Value) : Kept w B e enc [] [] := ⟨rfl, by simp, by simp⟩
theorem Kept.get (h : Kept w B e enc vs xss) (i : Nat) (hi : i < vs.length) : ∃ v xs, vs[i]? = some v ∧ xss[i]? = some xs ∧ w.ownsRow B e 1 v xs.length (xs.map enc) := by
  have hi2 : i < xss.length := h.len ▸ hi
  exact ⟨vs[i], xss[i], List.getElem?_eq_getElem hi, List.getElem?_eq_getElem hi2, h.own i _ _ (List.getElem?_eq_getElem hi) (List.getElem?_eq_getElem hi2)⟩
theorem Kept.lt (h : Kept w B e enc vs xss) : ∀ v ∈ vs, ∀ g, v.ownBlock = some g → B ≤ g ∧ g < w.heap.size := by
  intro v hv g hg
  obtain ⟨i, hi, rfl⟩ := List.getElem_of_mem hv
  obtain ⟨v, xs, hv, hx, ho⟩ := h.get i hi
  rw [List.getElem?_eq_getElem hi] at hv
  cases hv
  exact ⟨own_base ho g hg, own_lt ho g hg⟩
theorem Kept.kind (h : Kept w B e enc vs xss) : ∀ v ∈ vs, ∀ g, v.ownBlock = some g → ∃ c fz, w.heap[g]? = some (.cells c e fz) := by
  intro v hv g hg
  obtain ⟨i, hi, rfl⟩ := List.getElem_of_mem hv
  obtain ⟨v, xs, hv, hx, ho⟩ := h.get i hi
  rw [List.getElem?_eq_getElem hi] at hv
  cases hv
  exact Lib.ownsRow_kind ho g hg
theorem Kept.grown {row : Option Nat} (h : Kept w B e enc vs xss) (hg : w.grownBy w1 row) (hne : ∀ v ∈ vs, ∀ g, v.ownBlock = some g → row ≠ some g) : Kept w1 B e enc vs xss := by
  refine ⟨h.len, fun i v xs hv hx => World.ownsRow.kept (h.own i v xs hv hx) hg ?_, h.apart⟩
  cases hb : v.ownBlock with
  | none => exact .inl rfl
  | some g => exact .inr (fun e => hne v (List.mem_of_getElem? hv) g hb e.symm)
theorem Kept.below (h : Kept w B e enc vs xss) (hb : Below w.heap.size w w1) : Kept w1 B e enc vs xss := h.grown (grown_below hb none) (by simp)
/-- A row of another type is written. -/
theorem Kept.other {e2 : TypeId} {c : Array Value} {fz : Nat × Nat} {g2 : Nat} (h : Kept w B e enc vs xss) (hg : w.grownBy w1 (some g2)) (hc : w.heap[g2]? = some (.cells c e2 fz)) (hne : e ≠ e2) : Kept w1 B e enc vs xss := by
  refine h.grown hg ?_
  intro v hv g hb e1
  cases e1
  obtain ⟨c1, fz1, h1⟩ := h.kind v hv g2 hb
  rw [hc] at h1
  simp only [Option.some.injEq, Obj.cells.injEq] at h1
  exact hne h1.2.1.symm
theorem Kept.opt {row : Option Nat} {e2 : TypeId} (h : Kept w B e enc vs xss) (hg : w.grownBy w1 row) (hc : ∀ g, row = some g → ∃ c fz, w.heap[g]? = some (.cells c e2 fz)) (hne : e ≠ e2) : Kept w1 B e enc vs xss := by
  cases row with
  | none => exact h.grown hg (by simp)
  | some g => obtain ⟨c, fz, hx⟩ := hc g rfl; exact h.other hg hx hne
theorem Kept.snoc {M : Nat} {v : Value} {xs : List α} (h : Kept w B e enc vs xss) (hv : w.ownsRow M e 1 v xs.length (xs.map enc)) (hB : B ≤ M) (hM : ∀ u ∈ vs, ∀ g, u.ownBlock = some g → g < M) : Kept w B e enc (vs ++ [v]) (xss ++ [xs]) := by
  refine ⟨by simp [h.len], ?_, ?_⟩
  · intro i u ys hu hy
    by_cases hi : i < vs.length
    · rw [List.getElem?_append_left hi] at hu
      rw [List.getElem?_append_left (h.len ▸ hi)] at hy
      exact h.own i u ys hu hy
    · rw [List.getElem?_append_right (by omega)] at hu
      rw [List.getElem?_append_right (by have := h.len; omega)] at hy
      rw [List.getElem?_singleton] at hu hy
      split at hu
      · split at hy
        · cases hu; cases hy; exact own_weaken hv hB
        · cases hy
      · cases hu
  · have hlast : ∀ i u, (vs ++ [v])[i]? = some u → (i < vs.length ∧ u ∈ vs ∧ vs[i]? = some u) ∨ (i = vs.length ∧ u = v) := by
      intro i u hu
      by_cases hi : i < vs.length
      · rw [List.getElem?_append_left hi] at hu
        exact .inl ⟨hi, List.mem_of_getElem? hu, hu⟩
      · rw [List.getElem?_append_right (by omega), List.getElem?_singleton] at hu
        split at hu
        · cases hu; exact .inr ⟨by omega, rfl⟩
        · cases hu
    intro i j a b ha hb hij g hga hgb
    rcases hlast i a ha with ⟨hi, ham, ha'⟩ | ⟨hi, rfl⟩ <;> rcases hlast j b hb with ⟨hj, hbm, hb'⟩ | ⟨hj, rfl⟩
    · exact h.apart i j a b ha' hb' hij g hga hgb
    · have := hM a ham g hga; have := own_base hv g hgb; omega
    · have := hM b hbm g hgb; have := own_base hv g hga; omega
    · omega
/-- Row i is written (its old value is no longer asked for). -/
theorem Kept.put {i : Nat} {v : Value} {xs ys : List α} (h : Kept w B e enc vs xss) (hv : vs[i]? = some v) (hx : xss[i]? = some xs) (hg : w.grownBy w1 v.ownBlock) (ho : w1.ownsRow B e 1 v ys.length (ys.map enc)) : Kept w1 B e enc vs (xss.set i ys) := by
  refine ⟨by simp [h.len], ?_, h.apart⟩
  intro j u zs hu hz
  have hi : i < xss.length := (List.getElem?_eq_some_iff.1 hx).1
  by_cases hij : i = j
  · subst hij
    rw [hv] at hu
    cases hu
    rw [List.getElem?_set_self hi] at hz
    cases hz
    exact ho
  · rw [List.getElem?_set_ne hij] at hz
    refine World.ownsRow.kept (h.own j u zs hu hz) hg ?_
    cases hb : u.ownBlock with
    | none => exact .inl rfl
    | some g => exact .inr (fun e1 => h.apart j i u v hu hv (Ne.symm hij) g hb e1.symm)
theorem Kept.same {i : Nat} {v : Value} {xs : List α} (h : Kept w B e enc vs xss) (hv : vs[i]? = some v) (hx : xss[i]? = some xs) (hg : w.grownBy w1 v.ownBlock) (ho : w1.ownsRow B e 1 v xs.length (xs.map enc)) : Kept w1 B e enc vs xss := by
  have := h.put hv hx hg ho
  obtain ⟨hi, hxs⟩ := List.getElem?_eq_some_iff.1 hx
  subst hxs
  rwa [List.set_getElem_self] at this
end
end Go.Proofs.YtkcfbipnhnboaaaGreat

namespace Go.Proofs.YtkcfbipnhnboaaaGreat
open Go.RowKit

def hexD (d : Nat) : Nat := if d < 10 then 48 + d else 87 + d
def hexS : ByteArray := ⟨#[48, 49, 50, 51, 52, 53, 54, 55, 56, 57, 97, 98, 99, 100, 101, 102]⟩
theorem hexD_inj {k d : Nat} (hk : k < 16) (hd : d < 16) (h : hexD k = hexD d) : k = d := by
  unfold hexD at h
  split at h <;> split at h <;> omega
theorem hex_get (k : Nat) (h : k < 16) : (hexS[k]'h).toNat = hexD k := by
  obtain rfl | rfl | rfl | rfl | rfl | rfl | rfl | rfl | rfl | rfl | rfl | rfl | rfl | rfl | rfl | rfl : k = 0 ∨ k = 1 ∨ k = 2 ∨ k = 3 ∨ k = 4 ∨ k = 5 ∨ k = 6 ∨ k = 7 ∨ k = 8 ∨ k = 9 ∨ k = 10 ∨ k = 11 ∨ k = 12 ∨ k = 13 ∨ k = 14 ∨ k = 15 := by omega
  all_goals rfl
theorem hex_eq {k c : Nat} (h : k < 16) (hc : hexD k = c) : (((hexS[k]'h).toNat : Int) == (c : Int)) = true := by rw [hex_get, hc]; simp
theorem hex_ne {k d c : Nat} (h : k < 16) (hd : d < 16) (hc : hexD d = c) (hkd : ¬ k = d) : (((hexS[k]'h).toNat : Int) == (c : Int)) = false := by
  rw [hex_get, ← hc]
  have : hexD k ≠ hexD d := fun e => hkd (hexD_inj h hd e)
  simp only [beq_eq_false_iff_ne, ne_eq]
  omega

set_option maxRecDepth 100000 in
set_option maxHeartbeats 600000 in
theorem digit_any (d : Nat) (hd : d < 16) (w : World) : Calls Tryz.prog 140 #[.int .u8 (hexD d : Int)] w fun e w' => e = .returned (.int .i64 (d : Int)) ∧ w = w' := by
  obtain ⟨c, hc⟩ : ∃ c, hexD d = c := ⟨_, rfl⟩
  rw [hc]
  have HC : Box _ := ⟨hc⟩
  clear hc
  go_enter Tryz.func140, Tryz.ntmps140
  go_wp2
  go_loop [4] (fun i => ∃ k : Nat, k ≤ d ∧ i = .int .i64 (k : Int)) (fun i => 16 - (intOf i).toNat)
  case atStart => exact ⟨0, by omega, rfl⟩
  case round =>
    obtain ⟨k, hk, rfl⟩ := hrel
    by_cases hkd : k = d
    · subst hkd
      go_wp2
      · go_ret
        exact ⟨rfl, rfl⟩
      · rename_i hx
        exact absurd hx (by rw [show ((((⟨#[48, 49, 50, 51, 52, 53, 54, 55, 56, 57, 97, 98, 99, 100, 101, 102]⟩ : ByteArray)[k]'hd).toNat : Int) == (c : Int)) = true from hex_eq hd HC.out]; decide)
    · have hk16 : k < 16 := by omega
      go_wp2
      · rename_i hx _
        exact absurd hx (by rw [show ((((⟨#[48, 49, 50, 51, 52, 53, 54, 55, 56, 57, 97, 98, 99, 100, 101, 102]⟩ : ByteArray)[k]'hk16).toNat : Int) == (c : Int)) = false from hex_ne hk16 hd HC.out hkd]; decide)
      · exact ⟨⟨k + 1, by omega, by go_num⟩, by simp [intOf]; omega⟩

theorem or16 {x y : Nat} (hx : x < 16) (hy : y < 16) : bits .or .i64 ((x : Int) * 16) (y : Int) = ((x * 16 + y : Nat) : Int) := by
  have h : ∀ a : Fin 16, ∀ b : Fin 16, bits .or .i64 ((a.val : Int) * 16) (b.val : Int) = ((a.val * 16 + b.val : Nat) : Int) := by decide +kernel
  exact h ⟨x, hx⟩ ⟨y, hy⟩
theorem run_string_of_own {P : Program} (src dst e : TypeId) (hs : P.underlying src = some (.slice e)) (he : P.underlying e = some (.int .u8)) (hd : P.underlying dst = some .string) {w : World} {B : Nat} {v : Value} {l : List Nat} (h : w.ownsRow B e 1 v l.length (l.map fun x : Nat => Value.int .u8 (x : Int))) :
    (convert src dst v).run P w = .ok (.string (strOf l)) w := by
  rcases own_forms h with ⟨rfl, h0⟩ | ⟨g, c, rfl⟩
  · have : l = [] := List.eq_nil_of_length_eq_zero h0
    subst this
    have := run_convert_bytes_arg (P := P) w src e hs he 0 0 0 0 [] (by simp) (by simp) dst hd
    simp [convert, hs, he, hd, run_underlying, strOf] at *
    all_goals (try assumption)
  · rw [run_convert_bytes_arg w src e hs he g 0 l.length c (l.map fun x : Nat => (x : Int)) (by simp) (by
      intro i hi
      rw [Nat.zero_add, World.ownsRow.cellAt h i (by simpa using hi)]
      simp [hi]) dst hd]
    congr 2
    simp only [strOfNums, strOf, List.map_map]
    congr 2
/-- s is the digits l. -/
def HexOf (s : ByteArray) (l : List Nat) : Prop := s.size = l.length ∧ ∀ i (h : i < s.size), (s[i]).toNat = hexD (l.getD i 0) ∧ l.getD i 0 < 16
/-- The first k bytes of the digits l. -/
def unhexTo (l : List Nat) (k : Nat) : List Nat := (List.range k).map fun j => l.getD (2 * j) 0 * 16 + l.getD (2 * j + 1) 0
theorem unhexTo_length (l : List Nat) (k : Nat) : (unhexTo l k).length = k := by simp [unhexTo]
theorem unhexTo_succ (l : List Nat) (k : Nat) : unhexTo l (k + 1) = unhexTo l k ++ [l.getD (2 * k) 0 * 16 + l.getD (2 * k + 1) 0] := by simp [unhexTo, List.range_succ]
theorem info_u8 : (Tryz.prog.info? 5).map (fun i => (i.zero, i.size, i.bytes)) = some (some (.int .u8 0), 1, 1) := by kernel_rfl
def u8s (l : List Nat) : List Value := l.map fun x : Nat => Value.int .u8 (x : Int)

set_option maxRecDepth 100000 in
set_option maxHeartbeats 600000 in
theorem unhex_any (s : ByteArray) (l : List Nat) (n : Nat) (hs : s.size = 2 * n) (hn : n ≤ 1000000) (hl : HexOf s l) (w : World) :
    Calls Tryz.prog 129 #[.string s] w fun e w' => e = .returned (.tuple #[.string (strOf (unhexTo l n)), .bool true]) ∧ Below w.heap.size w w' := by
  obtain ⟨i0, hi, hz0, hz1, hz2⟩ := info_parts info_u8
  obtain ⟨wm, hmk, hom, hgm⟩ := run_make_own (P := Tryz.prog) w w.heap.size 42 5 i0 (.int .u8 0) 1 Tryz.underlying42 hi hz0 hz1 .i64 .i64 n (by rw [hz2]; omega) (by unfold maxLen; omega) (Nat.le_refl _)
  have hbm : Below w.heap.size w wm := below_of_grown hgm (Nat.le_refl _) (by simp)
  have HL : Box _ := ⟨hl⟩
  have HO : Box _ := ⟨And.intro hom hbm⟩
  clear hl hom hbm hgm hz0 hz1 hz2 hi
  have hq : ((s.size : Int)) / 2 = (n : Int) := by omega
  have hr : ((s.size : Int)) % 2 = 0 := by omega
  go_enter Tryz.func129, Tryz.ntmps129
  go_wp2
  go_loopw [4, 5] (fun v i wr => ∃ k : Nat, k ≤ n ∧ i = .int .i64 ((2 * k : Nat) : Int) ∧ Box (wr.ownsRow w.heap.size 5 1 v k (u8s (unhexTo l k))) ∧ Box (Below w.heap.size w wr)) (fun _ i _ => 2 * n - (intOf i).toNat)
  case atStart => exact ⟨0, by omega, rfl, ⟨HO.out.1⟩, ⟨HO.out.2⟩⟩
  case round =>
    obtain ⟨k, hk, rfl, HOK, HB⟩ := hrel
    obtain ⟨A, c, rfl⟩ := own_slice HOK.out
    by_cases hlt : k < n
    · have hd0 := HL.out.2 (2 * k) (by omega)
      have hd1 := HL.out.2 (2 * k + 1) (by omega)
      obtain ⟨x, hx⟩ : ∃ x, l.getD (2 * k) 0 = x := ⟨_, rfl⟩
      obtain ⟨y, hy⟩ : ∃ y, l.getD (2 * k + 1) 0 = y := ⟨_, rfl⟩
      rw [hx] at hd0
      rw [hy] at hd1
      have HXY : Box _ := ⟨And.intro hx hy⟩
      obtain ⟨j, hj⟩ : ∃ j, 2 * k = j := ⟨_, rfl⟩
      have hj1 : j + 1 < s.size := by omega
      have HJ : Box _ := ⟨hj⟩
      have hj2 : j < 2 * n := by omega
      simp only [hj] at hd0 hd1 ⊢
      obtain ⟨hx0, hx1⟩ := hd0
      obtain ⟨hy0, hy1⟩ := hd1
      have hw1 : IntKind.i64.wrap ((j : Int) + 1) = ((j + 1 : Nat) : Int) := by rw [IntWalk.i64_in _ (by omega)]; omega
      have hD0 := digit_any x hx1
      have hD1 := digit_any y hy1
      obtain ⟨cx, hcx⟩ : ∃ c, hexD x = c := ⟨_, rfl⟩
      obtain ⟨cy, hcy⟩ : ∃ c, hexD y = c := ⟨_, rfl⟩
      rw [hcx] at hD0 hx0
      rw [hcy] at hD1 hy0
      have HD0 : Box _ := ⟨hD0⟩
      have HD1 : Box _ := ⟨hD1⟩
      clear hD0 hD1 hcx hcy
      have e0 : ∀ (h : j < s.size), (s[j]'h).toNat = cx := fun _ => hx0
      have e1 : ∀ (h : j + 1 < s.size), (s[j + 1]'h).toNat = cy := fun _ => hy0
      clear hx0 hy0 hx hy hj
      go_wp2_with fail
      go_quiet (first | (go_at_call_of 140 cx; exact Calls.quiet_of_same (still_of (HD0.out _))) | (go_at_call_of 140 cy; exact Calls.quiet_of_same (still_of (HD1.out _))))
      have HO2 : Box _ := ⟨own_below HOK.out (below_drewN (Below.refl _ _) nq)⟩
      have HB2 : Box _ := ⟨HB.out.trans ((below_drewN (Below.refl wr.heap.size wr) nq).mono HB.out.size)⟩
      obtain ⟨W, hW⟩ : ∃ W, W = wr.drewN nq := ⟨_, rfl⟩
      rw [← hW] at HO2 HB2 ⊢
      have hWs := HB2.out.size
      clear hW HOK HB HD0 HD1 e0 e1
      have hor := or16 hx1 hy1
      obtain ⟨z, hz⟩ : ∃ z, x * 16 + y = z := ⟨_, rfl⟩
      have hz256 : z < 256 := by omega
      rw [hz] at hor
      have HZ : Box _ := ⟨hz⟩
      clear hz
      go_wp2_with (refine list_append_own rfl (.tmp 37) (.tmp 43) 42 rfl w.heap.size 5 (.int .u8 0) 1 1 Tryz.underlying42 info_u8 rfl (by decide) (.slice A k c) k _ (by simp [Act.eval]) (World.ownsRow.alloc HO2.out _) ⟨W.heap.size, 0, none⟩ 1 1 [.int .u8 (z : Int)] (by simp [Act.eval]) rfl (news_one _ _ _) (news_one_cell _ rfl) (by omega) (by decide) (by simp; omega) ?_; intro v1 w1 hn1 hg1; obtain ⟨A1, c1, rfl⟩ := own_slice hn1)
      go_wp2
      have h2j := HJ.out
      refine ⟨⟨k + 1, by omega, by go_num, ⟨?_⟩, ⟨(HB2.out.alloc (by omega) _).grown hg1 (by simp; omega) (fun g hg => own_base HO2.out g hg)⟩⟩, by simp [intOf]; omega⟩
      rw [unhexTo_succ, HXY.out.1, HXY.out.2, HZ.out, u8s, List.map_append]
      exact hn1
    · obtain rfl : k = n := by omega
      have hst : (convert 42 9 (.slice A k c)).run Tryz.prog wr = .ok (.string (strOf (unhexTo l k))) wr := run_string_of_own 42 9 5 Tryz.underlying42 Tryz.underlying5 Tryz.underlying9 (by rw [unhexTo_length]; exact HOK.out)
      obtain ⟨r, hr2⟩ : ∃ r, strOf (unhexTo l k) = r := ⟨_, rfl⟩
      rw [hr2] at hst
      have HR : Box _ := ⟨hr2⟩
      clear hr2
      go_wp2
      go_ret2
      rw [HR.out]
      exact ⟨rfl, HB.out⟩
end Go.Proofs.YtkcfbipnhnboaaaGreat

namespace Go.Proofs.YtkcfbipnhnboaaaGreat
open Go.RowKit

/-- The cells when k words f 0, f 1 .. have been laid from off on. -/
def setW (cs : Array Value) (off : Nat) (f : Nat → Nat) : Nat → Array Value
  | 0 => cs
  | k + 1 => (setW cs off f k).setIfInBounds (off + k) (.int .u32 (f k : Int))
theorem setW_size (cs : Array Value) (off : Nat) (f : Nat → Nat) (k : Nat) : (setW cs off f k).size = cs.size := by
  induction k with
  | zero => rfl
  | succ k ih => simp [setW, ih]
def word4 (s : ByteArray) (i : Nat) : Nat := beGet (s.extract (4 * i) (4 * i + 4))
theorem word4_lt (s : ByteArray) (i : Nat) : word4 s i < 4294967296 := by
  have h2 := bigN_lt (s.extract (4 * i) (4 * i + 4)).data.toList
  have h3 : (s.extract (4 * i) (4 * i + 4)).data.toList.length ≤ 4 := by
    have : (s.extract (4 * i) (4 * i + 4)).size ≤ 4 := by rw [ByteArray.size_extract]; omega
    rw [Array.length_toList]; exact this
  have h4 : 256 ^ (s.extract (4 * i) (4 * i + 4)).data.toList.length ≤ 256 ^ 4 := Nat.pow_le_pow_right (by decide) h3
  exact Nat.lt_of_lt_of_le h2 h4

set_option maxRecDepth 100000 in
set_option maxHeartbeats 600000 in
theorem words_any (tb off n : Nat) (T : TypeId) (cs : Array Value) (s : ByteArray) (l : List Nat) (hs : s.size = 8 * n) (hn : n ≤ 1000) (hl : HexOf s l) (w : World) (hb : Blk w tb T cs) (hcs : off + n ≤ cs.size) :
    Calls Tryz.prog 120 #[.slice (some ⟨tb, off, none⟩) n n, .string s] w fun e w' => e = .returned (.tuple #[]) ∧ Blk w' tb T (setW cs off (word4 (strOf (unhexTo l (4 * n)))) n) ∧ (∀ g, g < w.heap.size → g ≠ tb → w'.heap[g]? = w.heap[g]?) ∧ Below tb w w' := by
  have hu := unhex_any s l (4 * n) (by omega) (by omega) hl
  have hsz : (strOf (unhexTo l (4 * n))).size = 4 * n := by rw [strOf_size, unhexTo_length]
  obtain ⟨b, hb0⟩ : ∃ b, strOf (unhexTo l (4 * n)) = b := ⟨_, rfl⟩
  rw [hb0] at hu hsz ⊢
  have HU : Box _ := ⟨hu⟩
  have HBK : Box _ := ⟨hb⟩
  have hbl := Blk.lt hb
  clear hu hb hb0 hl
  go_enter Tryz.func120, Tryz.ntmps120
  go_wp2_with fail
  refine (HU.out _).mono ?_
  rintro e w1 ⟨rfl, hb1⟩
  have HB1 : Box _ := ⟨hb1⟩
  have HK1 : Box (Blk w1 tb T (setW cs off (word4 b) 0)) := ⟨Blk.below HBK.out hb1⟩
  clear hb1
  go_wp2
  go_loopw [14] (fun i wr => ∃ k : Nat, k ≤ n ∧ i = .int .i64 (k : Int) ∧ Box (Blk wr tb T (setW cs off (word4 b) k)) ∧ Box (∀ g, g < w.heap.size → g ≠ tb → wr.heap[g]? = w.heap[g]?) ∧ Box (Below tb w wr)) (fun i _ => n - (intOf i).toNat)
  case atStart => exact ⟨0, by omega, rfl, HK1, ⟨fun g hg _ => HB1.out.block g hg⟩, ⟨HB1.out.mono (by omega)⟩⟩
  case round =>
    obtain ⟨k, hk, rfl, HK, HF, HB⟩ := hrel
    by_cases hlt : k < n
    · go_wp2_with fail
      refine (big_any _ _ (by rw [ByteArray.size_extract]; omega)).mono ?_
      rintro e w2 ⟨rfl, hb2⟩
      have hxl := word4_lt b k
      obtain ⟨x, hx⟩ : ∃ x, word4 b k = x := ⟨_, rfl⟩
      rw [show beGet (b.extract (4 * k) (4 * k + 4)) = x from hx]
      rw [hx] at hxl
      have HX : Box _ := ⟨hx⟩
      have HK2 : Box (Blk w2 tb T (setW cs off (word4 b) k)) := ⟨Blk.below HK.out hb2⟩
      have HB2 : Box _ := ⟨hb2⟩
      clear hx hb2
      have hsz2 := HB2.out.size
      have hszw := HB.out.size
      obtain ⟨u, hu⟩ : ∃ u, w2.cell? ⟨tb, off + k, none⟩ = some u := by
        rw [Blk.cell HK2.out]
        exact ⟨_, Array.getElem?_eq_getElem (by rw [setW_size]; omega)⟩
      have hf := Blk.free HK2.out (off + k)
      go_wp2
      have hst := Blk.set HK2.out (off + k) (.int .u32 (x : Int))
      refine ⟨⟨k + 1, by omega, by go_num, ⟨by rw [setW, HX.out]; exact hst⟩, ⟨?_⟩, ⟨(HB.out.trans (HB2.out.mono (by omega))).setCell (Nat.le_refl _) _⟩⟩, by simp [intOf]; omega⟩
      intro g hg hne
      rw [Below.heap_setCell _ _ _ _ (by exact hne), HB2.out.block g (by omega)]
      exact HF.out g hg hne
    · obtain rfl : k = n := by omega
      go_wp2
      go_end0
      exact ⟨rfl, HK.out, HF.out, HB.out⟩

def eachL : List Nat := (List.range 512).map fun j => kTab.getD (j / 8) 0 / 16 ^ (7 - j % 8) % 16
def firstL : List Nat := (List.range 64).map fun j => hFirst.list.getD (j / 8) 0 / 16 ^ (7 - j % 8) % 16
/-- The cells of a table that is made, behind the once. -/
def tableCells (a b c : Value) (k f : List Nat) : Array Value := #[a, b, c] ++ u32Cells k ++ u32Cells f
theorem each_words : ∀ i, i < 64 → word4 (strOf (unhexTo eachL 256)) i = kTab.getD i 0 := by
  have h : (List.range 64).all (fun i => word4 (strOf (unhexTo eachL 256)) i == kTab.getD i 0) = true := by decide +kernel
  intro i hi
  have := List.all_eq_true.1 h i (by simpa using hi)
  simpa using this
theorem first_words : ∀ i, i < 8 → word4 (strOf (unhexTo firstL 32)) i = hFirst.list.getD i 0 := by
  have h : (List.range 8).all (fun i => word4 (strOf (unhexTo firstL 32)) i == hFirst.list.getD i 0) = true := by decide +kernel
  intro i hi
  have := List.all_eq_true.1 h i (by simpa using hi)
  simpa using this
end Go.Proofs.YtkcfbipnhnboaaaGreat

namespace Go.Proofs.YtkcfbipnhnboaaaGreat
open Go.RowKit Go.MuLone

theorem hexOf_of {s : ByteArray} {l : List Nat} (h : (s.size == l.length && (List.range s.size).all fun i => (s.data.toList.getD i 0).toNat == hexD (l.getD i 0) && decide (l.getD i 0 < 16)) = true) : HexOf s l := by
  simp only [Bool.and_eq_true, beq_iff_eq, List.all_eq_true, List.mem_range, decide_eq_true_eq] at h
  refine ⟨h.1, fun i hi => ?_⟩
  have := h.2 i hi
  rwa [getD_get s i hi] at this
theorem setW_congr (cs : Array Value) (off : Nat) (f g : Nat → Nat) (k : Nat) (h : ∀ i, i < k → f i = g i) : setW cs off f k = setW cs off g k := by
  induction k with
  | zero => rfl
  | succ k ih => rw [setW, setW, ih (fun i hi => h i (by omega)), h k (by omega)]
theorem setW_far (cs : Array Value) (off : Nat) (f : Nat → Nat) (k i : Nat) (hi : i < off ∨ off + k ≤ i) : (setW cs off f k)[i]? = cs[i]? := by
  induction k with
  | zero => rfl
  | succ k ih => rw [setW, Array.getElem?_setIfInBounds_ne (by omega), ih (by omega)]
theorem setW_at (cs : Array Value) (off : Nat) (f : Nat → Nat) (k i : Nat) (hi : i < k) (hcs : off + k ≤ cs.size) : (setW cs off f k)[off + i]? = some (.int .u32 (f i : Int)) := by
  induction k with
  | zero => omega
  | succ k ih =>
    rw [setW]
    by_cases e : i = k
    · subst e
      rw [Array.getElem?_setIfInBounds_self_of_lt (by rw [setW_size]; omega)]
    · rw [Array.getElem?_setIfInBounds_ne (by omega), ih (by omega) (by omega)]
/-- A table's cells, empty; made. -/
def tab0 (d st : Value) : Array Value := #[d, st, .int .u32 0] ++ (List.replicate 72 (.int .u32 0)).toArray
def tab1 (d st : Value) : Array Value := setW (setW (tab0 d st) 3 (fun i => kTab.getD i 0) 64) 67 (fun i => hFirst.list.getD i 0) 8
theorem tab0_size (d st : Value) : (tab0 d st).size = 75 := by simp [tab0]
theorem tab1_k (d st : Value) (i : Nat) (hi : i < 64) : (tab1 d st)[3 + i]? = some (.int .u32 (kTab.getD i 0 : Nat)) := by
  rw [tab1, setW_far _ _ _ _ _ (by omega), setW_at _ _ _ _ _ hi (by rw [tab0_size]; omega)]
theorem tab1_f (d st : Value) (i : Nat) (hi : i < 8) : (tab1 d st)[67 + i]? = some (.int .u32 (hFirst.list.getD i 0 : Nat)) := by
  rw [tab1, setW_at _ _ _ _ _ hi (by rw [setW_size, tab0_size]; omega)]
theorem tab1_set0 (d st d' : Value) : (tab1 d st).setIfInBounds 0 d' = tab1 d' st := by
  apply Array.ext_getElem?
  intro i
  by_cases h0 : i = 0
  · subst h0
    rw [Array.getElem?_setIfInBounds_self_of_lt (by rw [tab1, setW_size, setW_size, tab0_size]; omega), tab1, setW_far _ _ _ _ _ (by omega), setW_far _ _ _ _ _ (by omega)]
    simp [tab0]
  · rw [Array.getElem?_setIfInBounds_ne (by omega)]
    have hh : (tab0 d st)[i]? = (tab0 d' st)[i]? := by
      cases i with
      | zero => omega
      | succ i => simp [tab0]
    by_cases h1 : 67 ≤ i ∧ i < 75
    · obtain ⟨j, rfl⟩ : ∃ j, i = 67 + j := ⟨i - 67, by omega⟩
      rw [tab1_f _ _ _ (by omega), tab1_f _ _ _ (by omega)]
    · by_cases h2 : 3 ≤ i ∧ i < 67
      · obtain ⟨j, rfl⟩ : ∃ j, i = 3 + j := ⟨i - 3, by omega⟩
        rw [tab1_k _ _ _ (by omega), tab1_k _ _ _ (by omega)]
      · rw [tab1, tab1, setW_far _ _ _ _ _ (by omega), setW_far _ _ _ _ _ (by omega), setW_far _ _ _ _ _ (by omega), setW_far _ _ _ _ _ (by omega), hh]

theorem grown_of {w w1 : World} {b : Nat} (hf : ∀ g, g < w.heap.size → g ≠ b → w1.heap[g]? = w.heap[g]?) (hb : Below b w w1) : w.grownBy w1 (some b) :=
  ⟨hb.os, hb.tape, hb.output, hb.size, fun k hk hne => hf k hk (fun e => hne (by rw [e]))⟩
theorem grown_set_more {w w1 : World} {b : Nat} (h : w.grownBy w1 (some b)) (o : Nat) (u : Value) : w.grownBy (w1.setCell ⟨b, o, none⟩ u) (some b) := grown_trans h (grown_set w1 ⟨b, o, none⟩ u) (fun _ hk => .inl hk)
theorem grown_drew {w w1 : World} {r : Option Nat} (h : w.grownBy w1 r) : w.grownBy w1.drew r := ⟨h.os, h.tape, h.output, h.size, h.block⟩

set_option maxRecDepth 100000 in
set_option maxHeartbeats 1000000 in
theorem tableFn (b p : Nat) (w : World) (hp : p < w.heap.size) (hpb : p ≠ b)
    (hpl : w.cell? ⟨p, 0, none⟩ = some (.pointer (some ⟨b, 0, none⟩)))
    (hb : Blk w b 166 (tab0 (.int .u32 0) (.int .i32 1))) :
    Calls Tryz.prog 119 #[.pointer (some ⟨p, 0, none⟩)] w fun e w' => e = .returned (.tuple #[]) ∧
      Blk w' b 166 (tab1 (.int .u32 0) (.int .i32 1)) ∧ w.grownBy w' (some b) ∧ w'.cell? ⟨p, 0, none⟩ = some (.pointer (some ⟨b, 0, none⟩)) := by
  have hbl := Blk.lt hb
  have HB : Box _ := ⟨hb⟩
  clear hb
  go_enter Tryz.func119, Tryz.ntmps119
  go_wp2_with fail
  refine (words_any b 3 64 _ _ _ eachL (by decide +kernel) (by omega) (hexOf_of (by decide +kernel)) _ HB.out (by rw [tab0_size]; omega)).mono ?_
  rintro e w1 ⟨rfl, hk1, hf1, hb1⟩
  have hp1 : w1.cell? ⟨p, 0, none⟩ = some (.pointer (some ⟨b, 0, none⟩)) := (World.cell?_of_block (hf1 p hp hpb)).trans hpl
  have HK1 : Box _ := ⟨And.intro hk1 (And.intro hf1 hb1)⟩
  have hsz1 := hb1.size
  clear hk1 hf1 hb1
  go_wp2_with fail
  refine (words_any b 67 8 _ _ _ firstL (by decide +kernel) (by omega) (hexOf_of (by decide +kernel)) _ HK1.out.1 (by rw [setW_size, tab0_size]; omega)).mono ?_
  rintro e w2 ⟨rfl, hk2, hf2, hb2⟩
  have hp2 : w2.cell? ⟨p, 0, none⟩ = some (.pointer (some ⟨b, 0, none⟩)) := (World.cell?_of_block (hf2 p (by omega) hpb)).trans hp1
  have HK2 : Box _ := ⟨And.intro hk2 (And.intro hf2 hb2)⟩
  clear hk2 hf2 hb2
  go_wp2
  go_end0
  refine ⟨rfl, ?_, grown_trans (grown_of HK1.out.2.1 HK1.out.2.2) (grown_of HK2.out.2.1 HK2.out.2.2) (fun _ hk => .inl hk), hp2⟩
  have := HK2.out.1
  rw [setW_congr _ 3 _ _ 64 each_words, setW_congr _ 67 _ _ 8 first_words] at this
  exact this

theorem tmade1_enters (args : Array Value) (w : World) : (callFunc 119 args).run Tryz.prog w = .ok (.enter 119 args) w :=
  run_callFunc_enter Tryz.func119 (by kernel_rfl) rfl args w
def TabQ (b p : Nat) (w0 : World) (w2 : World) : Prop :=
  Blk w2 b 166 (tab1 (.int .u32 0) (.int .i32 1)) ∧ w0.grownBy w2 (some b) ∧ w2.cell? ⟨p, 0, none⟩ = some (.pointer (some ⟨b, 0, none⟩))
theorem tab0_set1 (d st st' : Value) : (tab0 d st).setIfInBounds 1 st' = tab0 d st' := by
  apply Array.ext'
  simp [tab0]
theorem tab1_set1 (d st st' : Value) : (tab1 d st).setIfInBounds 1 st' = tab1 d st' := by
  apply Array.ext_getElem?
  intro i
  by_cases h0 : i = 1
  · subst h0
    rw [Array.getElem?_setIfInBounds_self_of_lt (by rw [tab1, setW_size, setW_size, tab0_size]; omega), tab1, setW_far _ _ _ _ _ (by omega), setW_far _ _ _ _ _ (by omega)]
    simp [tab0]
  · rw [Array.getElem?_setIfInBounds_ne (by omega)]
    have hh : (tab0 d st)[i]? = (tab0 d st')[i]? := by
      rw [← tab0_set1 d st st', Array.getElem?_setIfInBounds_ne (by omega)]
    by_cases h1 : 67 ≤ i ∧ i < 75
    · obtain ⟨j, rfl⟩ : ∃ j, i = 67 + j := ⟨i - 67, by omega⟩
      rw [tab1_f _ _ _ (by omega), tab1_f _ _ _ (by omega)]
    · by_cases h2 : 3 ≤ i ∧ i < 67
      · obtain ⟨j, rfl⟩ : ∃ j, i = 3 + j := ⟨i - 3, by omega⟩
        rw [tab1_k _ _ _ (by omega), tab1_k _ _ _ (by omega)]
      · rw [tab1, tab1, setW_far _ _ _ _ _ (by omega), setW_far _ _ _ _ _ (by omega), setW_far _ _ _ _ _ (by omega), setW_far _ _ _ _ _ (by omega), hh]

set_option maxRecDepth 100000 in
set_option maxHeartbeats 1000000 in
theorem tableMade (b : Nat) (w : World) (hb : Blk w b 166 (tab0 (.int .u32 0) (.int .i32 0))) :
    Calls Tryz.prog 107 #[.pointer (some ⟨b, 0, none⟩)] w fun e w' => e = .returned (.pointer (some ⟨b, 0, none⟩)) ∧ Blk w' b 166 (tab1 (.int .u32 1) (.int .i32 0)) ∧ w.grownBy w' (some b) := by
  have hmf : ∀ (fn : Fn) (first cap : Array Value) (w : World), (Instr.makeFunc fn first cap).run Tryz.prog w = .ok (.func fn first cap) w := fun _ _ _ _ => rfl
  have hbl := Blk.lt hb
  obtain ⟨wa, hwa⟩ : ∃ wa, wa = w.alloc (.cells #[.pointer (some ⟨b, 0, none⟩)] 168) := ⟨_, rfl⟩
  have hba : Blk wa b 166 (tab0 (.int .u32 0) (.int .i32 0)) := by rw [hwa]; exact Blk.alloc hb _
  have hpa : Blk wa w.heap.size 168 #[.pointer (some ⟨b, 0, none⟩)] := by rw [hwa]; exact Blk.new w _
  have hsa : wa.heap.size = w.heap.size + 1 := by rw [hwa]; simp
  have hbel : w.grownBy wa (some b) := by rw [hwa]; exact World.grownBy_alloc w _ _
  have hdo : Calls Tryz.prog 85 #[.pointer (some ⟨b, 0, none⟩), .func (.func 119) #[] #[.pointer (some ⟨w.heap.size, 0, none⟩)]] wa (OnceEnd b 0 (TabQ b w.heap.size w)) := by
    refine do_first b 0 _ _ _ _ (Blk.cell hba 0) (Blk.cell hba 1) (Blk.free hba 1) (tmade1_enters _) ?_
    have h1 : Blk (wa.setCell ⟨b, 0 + 1, none⟩ (.int .i32 1)) b 166 (tab0 (.int .u32 0) (.int .i32 1)) := by rw [← tab0_set1 _ (.int .i32 0)]; exact Blk.set hba 1 _
    have h2 : Blk (wa.setCell ⟨b, 0 + 1, none⟩ (.int .i32 1)) w.heap.size 168 #[.pointer (some ⟨b, 0, none⟩)] := Blk.far hpa (by show w.heap.size ≠ b; omega) _
    have h3 : (wa.setCell ⟨b, 0 + 1, none⟩ (.int .i32 1)).heap.size = w.heap.size + 1 := by rw [World.size_setCell, hsa]
    refine (tableFn b w.heap.size _ (by omega) (by omega) (Blk.cell h2 0) h1).mono ?_
    rintro e w2 ⟨rfl, hv, hbel2, hpc⟩
    exact ⟨rfl, Blk.cell hv 0, Blk.free hv 0, Blk.cell hv 1, Blk.free hv 1, hv, grown_trans (grown_set_more hbel 1 _) hbel2 (fun _ hk => .inl hk), hpc⟩
  go_enter Tryz.func107, Tryz.ntmps107
  go_wp2_with fail
  have HD : Box _ := ⟨hdo⟩
  rw [← hwa]
  clear hwa hdo hb hba hpa
  refine HD.out.mono ?_
  rintro e w' ⟨rfl, w2, ⟨hv, hb2, hpc⟩, rfl⟩
  obtain ⟨w3, hw3⟩ : ∃ w3, w3 = (w2.drew.setCell ⟨b, 0, none⟩ (.int .u32 1)).setCell ⟨b, 0 + 1, none⟩ (.int .i32 0) := ⟨_, rfl⟩
  rw [← hw3]
  have h5 : Blk w3 b 166 (tab1 (.int .u32 1) (.int .i32 0)) := by
    rw [hw3, ← tab1_set1 _ (.int .i32 1), ← tab1_set0 (.int .u32 0)]
    exact Blk.set (Blk.set (Blk.drew hv) 0 _) 1 _
  have hpc3 : w3.cell? ⟨w.heap.size, 0, none⟩ = some (.pointer (some ⟨b, 0, none⟩)) := by
    rw [hw3, World.cell?_setCell_other _ _ _ _ (by first | (simp; done) | (simp; omega)), World.cell?_setCell_other _ _ _ _ (by first | (simp; done) | (simp; omega)), World.cell?_drew]; exact hpc
  have hb3 : w.grownBy w3 (some b) := by rw [hw3]; exact grown_set_more (grown_set_more (grown_drew hb2) 0 _) 1 _
  have H5 : Box _ := ⟨And.intro h5 hb3⟩
  clear hw3 hv h5 hb3 hb2 hpc
  go_wp2
  go_ret
  exact ⟨rfl, H5.out.1, H5.out.2⟩
end Go.Proofs.YtkcfbipnhnboaaaGreat
