/- Maps from strings to pointers: which block stands at a name. No function of the program is spoken of here. Package users: what a block of users is; of, Secret, Fails, Locked. Package users: Good, Fail. shake.NewGuest; shake.NewHost; Host: Done, User, Keys. shake.Host.greeted. shake.Host.proved: the function that Once.Do calls; Do over it. shake.Host.proved. -/
import Derived.Test.YtkcfbipnhnboaaaGreatCe
import Derived.Maps.Own
import Derived.Maps.OwnOps
import Derived.Maps.Views
import Derived.Deep.RegionWith
import Derived.Deep.DeepCutAuto
import Derived.Deep.RegionHeld3

namespace Go.Proofs.YtkcfbipnhnboaaaGreat
open Go.RowKit Go.Maps Go.WideMaps

/-- How a pointer in a map reads: the number of its block; -1: none. -/
def ptrElem (v : Value) : Option (DataW Unit × List MemPlace) :=
  match v with
  | .pointer none => some (.lit (.int .i64 (-1)), [])
  | .pointer (some ⟨b, 0, none⟩) => some (.lit (.int .i64 (b : Int)), [])
  | _ => none
/-- The pointer of a number. -/
def ptrOf (c : Int) : Value := if c < 0 then .pointer none else .pointer (some ⟨c.toNat, 0, none⟩)
theorem ptrOf_neg : ptrOf (-1) = .pointer none := rfl
theorem ptrOf_nat (b : Nat) : ptrOf (b : Int) = .pointer (some ⟨b, 0, none⟩) := by
  rw [ptrOf, if_neg (by omega), Int.toNat_natCast]
theorem ptrElem_inv {v : Value} {c : Int} {ps : List MemPlace} (h : ptrElem v = some (.lit (.int .i64 c), ps)) : v = ptrOf c := by
  unfold ptrElem at h
  split at h
  · cases h; rfl
  · cases h; rw [ptrOf_nat]
  · cases h

/-- Block mb is a map from strings to pointers: at s stands the block f s (-1: none); n bounds its entries. -/
def UMap (P : Program) (k : TypeId) (w : World) (mb n : Nat) (f : ByteArray → Int) : Prop :=
  ∃ D, w.ownsMap P k ptrElem mb n D ∧ ∀ s : ByteArray, s.size ≤ maxLen → D.atKey (.string s.data.toList) (.lit (.int .i64 (-1))) = .lit (.int .i64 (f s))
section
variable {P : Program} {k : TypeId} {w : World} {mb n : Nat} {f : ByteArray → Int}
theorem UMap.made (P : Program) (k : TypeId) (w : World) : UMap P k (w.alloc (.map #[] 0)) w.heap.size 0 (fun _ => -1) :=
  ⟨_, World.ownsMap_made _ _ _ _, fun _ _ => rfl⟩
theorem UMap.mono (h : UMap P k w mb n f) {n' : Nat} (hn : n ≤ n') : UMap P k w mb n' f := by
  obtain ⟨D, h1, h2⟩ := h
  exact ⟨D, h1.mono hn, h2⟩
theorem UMap.lt (h : UMap P k w mb n f) : mb < w.heap.size := by
  obtain ⟨D, h1, _⟩ := h
  exact h1.lt
theorem UMap.of_block {w' : World} (h : UMap P k w mb n f) (hb : w'.heap[mb]? = w.heap[mb]?) : UMap P k w' mb n f := by
  obtain ⟨D, ⟨es, clock, h1, r⟩, h2⟩ := h
  exact ⟨D, ⟨es, clock, hb.trans h1, r⟩, h2⟩
theorem UMap.look {t e : TypeId} (h : UMap P k w mb n f) (hk : P.underlying k = some .string) (ht : P.underlying t = some (.map k e)) (hz : (zeroValue e).run P w = .ok (.pointer none) w) {s : ByteArray} (hs : s.size ≤ maxLen) :
    (Instr.lookup t (.map (some mb)) (.string s) false).run P w = .ok (ptrOf (f s)) w := by
  obtain ⟨D, h1, h2⟩ := h
  obtain ⟨v, ps, hr, hv⟩ := h1.lookup (string_keyed hk) ht hz (zd := .lit (.int .i64 (-1))) (zp := []) rfl (keyOf_string_mk hk hs)
  rw [h2 s hs] at hv
  rw [hr, ptrElem_inv hv]
theorem UMap.store {t e : TypeId} (h : UMap P k w mb n f) (hk : P.underlying k = some .string) (ht : P.underlying t = some (.map k e)) (hn : n < maxLen) {s : ByteArray} (hs : s.size ≤ maxLen) (b : Nat) :
    ∃ w', (Instr.mapUpdate t (.map (some mb)) (.string s) (.pointer (some ⟨b, 0, none⟩))).run P w = .ok () w' ∧ UMap P k w' mb (n + 1) (fun s' => if s' = s then (b : Int) else f s') ∧ w.grownBy w' (some mb) := by
  obtain ⟨D, h1, h2⟩ := h
  obtain ⟨w', hr, ho, hg⟩ := h1.update (string_keyed hk) ht hn (keyOf_string_mk hk hs) (val := .pointer (some ⟨b, 0, none⟩)) (d := .lit (.int .i64 (b : Int))) (ps := []) rfl
  refine ⟨w', hr, ⟨_, ho, fun s' hs' => ?_⟩, hg⟩
  have hM : IsMap D := by obtain ⟨es, c, _, _, _, rfl⟩ := h1; exact ⟨_, rfl⟩
  by_cases e : s' = s
  · subst e
    rw [atKey_put_same hM (show WideAt.IsKeyLit (.string _) from trivial)]
    simp
  · rw [atKey_put_other (fun e2 => e (by
      have e3 : s'.data.toList = s.data.toList := by injection e2
      exact ByteArray.ext (Array.ext' e3))), h2 s' hs']
    simp [e]
end
end Go.Proofs.YtkcfbipnhnboaaaGreat

namespace Go.Proofs.YtkcfbipnhnboaaaGreat
open Go.RowKit Go.Maps Go.WideMaps

/-! ### what else has turned -/
/-- Of what was there only the blocks in S may have turned. -/
def Chg (S : Nat → Prop) (w w' : World) : Prop := w'.os = w.os ∧ w'.tape = w.tape ∧ w'.output = w.output ∧ w.heap.size ≤ w'.heap.size ∧ ∀ k, k < w.heap.size → ¬ S k → w'.heap[k]? = w.heap[k]?
theorem Chg.refl (S : Nat → Prop) (w : World) : Chg S w w := ⟨rfl, rfl, rfl, Nat.le_refl _, fun _ _ _ => rfl⟩
theorem Chg.trans {S : Nat → Prop} {w w1 w2 : World} (h : Chg S w w1) (h2 : Chg S w1 w2) : Chg S w w2 :=
  ⟨h2.1.trans h.1, h2.2.1.trans h.2.1, h2.2.2.1.trans h.2.2.1, Nat.le_trans h.2.2.2.1 h2.2.2.2.1, fun k hk hs => (h2.2.2.2.2 k (Nat.lt_of_lt_of_le hk h.2.2.2.1) hs).trans (h.2.2.2.2 k hk hs)⟩
theorem Chg.mono {S S' : Nat → Prop} {w w' : World} (h : Chg S w w') (hs : ∀ k, k < w.heap.size → S k → S' k) : Chg S' w w' :=
  ⟨h.1, h.2.1, h.2.2.1, h.2.2.2.1, fun k hk hn => h.2.2.2.2 k hk (fun e => hn (hs k hk e))⟩
theorem Chg.of_below {S : Nat → Prop} {w w' : World} (h : Below w.heap.size w w') : Chg S w w' := ⟨h.os, h.tape, h.output, h.size, fun k hk _ => h.block k hk⟩
theorem Chg.of_grown {S : Nat → Prop} {w w' : World} {b : Nat} (h : w.grownBy w' (some b)) (hb : S b) : Chg S w w' :=
  ⟨h.os, h.tape, h.output, h.size, fun k hk hn => h.block k hk (fun e => hn (by cases e; exact hb))⟩
theorem Chg.set {S : Nat → Prop} {w w' : World} (h : Chg S w w') (g i : Nat) (u : Value) (hg : S g) : Chg S w (w'.setCell ⟨g, i, none⟩ u) :=
  ⟨h.1, h.2.1, h.2.2.1, by rw [World.size_setCell]; exact h.2.2.2.1, fun k hk hn => (Below.heap_setCell w' ⟨g, i, none⟩ u k (fun e => hn (by subst e; exact hg))).trans (h.2.2.2.2 k hk hn)⟩
theorem Chg.block {S : Nat → Prop} {w w' : World} (h : Chg S w w') {g : Nat} {o : Obj} (hg : w.heap[g]? = some o) (hn : ¬ S g) : w'.heap[g]? = some o := (h.2.2.2.2 g (Blk.lt hg) hn).trans hg
theorem Chg.below {S : Nat → Prop} {B : Nat} {w w' : World} (h : Chg S w w') (hB : B ≤ w.heap.size) (hs : ∀ k, S k → B ≤ k) : Below B w w' :=
  ⟨h.1, h.2.1, h.2.2.1, h.2.2.2.1, fun k hk => h.2.2.2.2 k (Nat.lt_of_lt_of_le hk hB) (fun e => by have := hs k e; omega)⟩

/-! ### users -/
structure URec where
  name : ByteArray
  secret : ByteArray
  blk : Nat
  fails : Nat
  locked : Bool
  till : Int
def URec.cells (r : URec) : Array Value := #[.string r.secret, .int .i64 (r.fails : Int), .bool r.locked, .int .i64 r.till]
def recOf (L : List URec) (s : ByteArray) : Option URec := L.find? fun r => decide (r.name = s)
def blkOf (L : List URec) (s : ByteArray) : Int := match recOf L s with | some r => (r.blk : Int) | none => -1
theorem blkOf_some {L : List URec} {s : ByteArray} {r : URec} (h : recOf L s = some r) : ptrOf (blkOf L s) = .pointer (some ⟨r.blk, 0, none⟩) := by rw [blkOf, h]; exact ptrOf_nat _
theorem blkOf_none {L : List URec} {s : ByteArray} (h : recOf L s = none) : ptrOf (blkOf L s) = .pointer none := by rw [blkOf, h]; rfl
theorem recOf_mem {L : List URec} {s : ByteArray} {r : URec} (h : recOf L s = some r) : r ∈ L ∧ r.name = s := by
  have h1 := List.mem_of_find?_eq_some h
  have h2 := List.find?_some h
  exact ⟨h1, of_decide_eq_true h2⟩

/-- Block ub holds these users. -/
structure UsersAt (w : World) (ub : Nat) (L : List URec) : Prop where
  map : ∃ mb, Blk w ub 108 #[.map (some mb)] ∧ UMap Tryz.prog 9 w mb L.length (blkOf L)
  cells : ∀ r ∈ L, Blk w r.blk 111 r.cells
  apart : (L.map URec.blk).Nodup
  names : (L.map URec.name).Nodup
  few : ∀ r ∈ L, r.fails < 3
/-- Everything that users lie in. -/
def UsersBlk (w : World) (ub : Nat) (L : List URec) (k : Nat) : Prop := k = ub ∨ (∃ r ∈ L, r.blk = k) ∨ Blk w ub 108 #[.map (some k)]
theorem UsersAt.chg {S : Nat → Prop} {w w' : World} {ub : Nat} {L : List URec} (h : UsersAt w ub L) (hc : Chg S w w') (hn : ∀ k, k < w.heap.size → UsersBlk w ub L k → ¬ S k) : UsersAt w' ub L := by
  obtain ⟨⟨mb, h1, h2⟩, h3, h4, h5, h6⟩ := h
  exact ⟨⟨mb, hc.block h1 (hn _ (Blk.lt h1) (.inl rfl)), h2.of_block (hc.2.2.2.2 mb h2.lt (hn _ h2.lt (.inr (.inr h1))))⟩, fun r hr => hc.block (h3 r hr) (hn _ (Blk.lt (h3 r hr)) (.inr (.inl ⟨r, hr, rfl⟩))), h4, h5, h6⟩
theorem UsersAt.below {w w' : World} {ub : Nat} {L : List URec} (h : UsersAt w ub L) (hb : Below w.heap.size w w') : UsersAt w' ub L := h.chg (S := fun _ => False) (Chg.of_below hb) (fun _ _ _ e => e)

set_option maxHeartbeats 1000000 in
set_option maxRecDepth 100000 in
theorem of_any (ub : Nat) (L : List URec) (s : ByteArray) (w : World) (h : UsersAt w ub L) (hs : s.size ≤ 1000000000) : Calls Tryz.prog 61 #[.pointer (some ⟨ub, 0, none⟩), .string s] w fun e w' => e = .returned (ptrOf (blkOf L s)) ∧ w = w' := by
  obtain ⟨⟨mb, h1, h2⟩, _⟩ := h
  have hl := h2.look (t := 106) (e := 109) Tryz.underlying9 Tryz.underlying106 (by kernel_rfl) (s := s) (by unfold maxLen; omega)
  obtain ⟨v, hv⟩ : ∃ v, ptrOf (blkOf L s) = v := ⟨_, rfl⟩
  rw [hv] at hl ⊢
  have c0 : w.cell? ⟨ub, 0, none⟩ = some (.map (some mb)) := Blk.cell h1 0
  clear h1 h2 hv
  go_enter Tryz.func61, Tryz.ntmps61
  go_wp2
  go_ret
  exact ⟨rfl, rfl⟩

set_option maxHeartbeats 1000000 in
set_option maxRecDepth 100000 in
theorem secret_none (ub : Nat) (L : List URec) (s : ByteArray) (w : World) (h : UsersAt w ub L) (hs : s.size ≤ 1000000000) (hr : recOf L s = none) : Calls Tryz.prog 83 #[.pointer (some ⟨ub, 0, none⟩), .string s] w fun e w' => e = .returned (.tuple #[.string ByteArray.empty, .bool false]) ∧ w = w' := by
  have ho := of_any ub L s w h hs
  rw [blkOf_none hr] at ho
  have HO : Box _ := ⟨ho⟩
  clear ho hr
  go_enter Tryz.func83, Tryz.ntmps83
  go_wp2_with fail
  refine HO.out.mono ?_
  rintro e w1 ⟨rfl, rfl⟩
  go_wp2
  go_ret2
  exact ⟨rfl, rfl⟩

set_option maxHeartbeats 1000000 in
set_option maxRecDepth 100000 in
theorem secret_some (ub : Nat) (L : List URec) (s : ByteArray) (r : URec) (w : World) (h : UsersAt w ub L) (hs : s.size ≤ 1000000000) (hr : recOf L s = some r) : Calls Tryz.prog 83 #[.pointer (some ⟨ub, 0, none⟩), .string s] w fun e w' => e = .returned (.tuple #[.string r.secret, .bool true]) ∧ w = w' := by
  have ho := of_any ub L s w h hs
  rw [blkOf_some hr] at ho
  have HO : Box _ := ⟨ho⟩
  have c0 : w.cell? ⟨r.blk, 0, none⟩ = some (.string r.secret) := Blk.cell (h.cells r (recOf_mem hr).1) 0
  clear ho hr
  go_enter Tryz.func83, Tryz.ntmps83
  go_wp2_with fail
  refine HO.out.mono ?_
  rintro e w1 ⟨rfl, rfl⟩
  go_wp2
  go_ret2
  exact ⟨rfl, rfl⟩

set_option maxHeartbeats 1000000 in
set_option maxRecDepth 100000 in
theorem fails_none (ub : Nat) (L : List URec) (s : ByteArray) (w : World) (h : UsersAt w ub L) (hs : s.size ≤ 1000000000) (hr : recOf L s = none) : Calls Tryz.prog 41 #[.pointer (some ⟨ub, 0, none⟩), .string s] w fun e w' => e = .returned (.int .i64 0) ∧ w = w' := by
  have ho := of_any ub L s w h hs
  rw [blkOf_none hr] at ho
  have HO : Box _ := ⟨ho⟩
  clear ho hr
  go_enter Tryz.func41, Tryz.ntmps41
  go_wp2_with fail
  refine HO.out.mono ?_
  rintro e w1 ⟨rfl, rfl⟩
  go_wp2
  go_ret
  exact ⟨rfl, rfl⟩

set_option maxHeartbeats 1000000 in
set_option maxRecDepth 100000 in
theorem fails_some (ub : Nat) (L : List URec) (s : ByteArray) (r : URec) (w : World) (h : UsersAt w ub L) (hs : s.size ≤ 1000000000) (hr : recOf L s = some r) : Calls Tryz.prog 41 #[.pointer (some ⟨ub, 0, none⟩), .string s] w fun e w' => e = .returned (.int .i64 (r.fails : Int)) ∧ w = w' := by
  have ho := of_any ub L s w h hs
  rw [blkOf_some hr] at ho
  have HO : Box _ := ⟨ho⟩
  have c0 : w.cell? ⟨r.blk, 1, none⟩ = some (.int .i64 (r.fails : Int)) := Blk.cell (h.cells r (recOf_mem hr).1) 1
  clear ho hr
  go_enter Tryz.func41, Tryz.ntmps41
  go_wp2_with fail
  refine HO.out.mono ?_
  rintro e w1 ⟨rfl, rfl⟩
  go_wp2_with fail
  refine (i64Load _ _ _ c0).mono ?_
  rintro e w1 ⟨rfl, rfl⟩
  go_wp2
  go_ret
  exact ⟨rfl, rfl⟩

/-- Is a user locked out? -/
def lockedAt (L : List URec) (s : ByteArray) (now : Int) : Bool := match recOf L s with | some r => r.locked && decide (now ≤ r.till) | none => false

set_option maxHeartbeats 1000000 in
set_option maxRecDepth 100000 in
theorem locked_any (ub : Nat) (L : List URec) (s : ByteArray) (now : Int) (w : World) (h : UsersAt w ub L) (hs : s.size ≤ 1000000000) : Calls Tryz.prog 42 #[.pointer (some ⟨ub, 0, none⟩), .string s, .int .i64 now] w fun e w' => e = .returned (.bool (lockedAt L s now)) ∧ w = w' := by
  have ho := of_any ub L s w h hs
  cases hr : recOf L s with
  | none =>
    rw [blkOf_none hr] at ho
    have hl : lockedAt L s now = false := by rw [lockedAt, hr]
    have HO : Box _ := ⟨And.intro ho hl⟩
    clear ho hr hl
    go_enter Tryz.func42, Tryz.ntmps42
    go_wp2_with fail
    refine HO.out.1.mono ?_
    rintro e w1 ⟨rfl, rfl⟩
    go_wp2
    go_ret
    rw [HO.out.2]
    exact ⟨rfl, rfl⟩
  | some r =>
    rw [blkOf_some hr] at ho
    have hl : lockedAt L s now = (r.locked && decide (now ≤ r.till)) := by rw [lockedAt, hr]
    have c2 : w.cell? ⟨r.blk, 2, none⟩ = some (.bool r.locked) := Blk.cell (h.cells r (recOf_mem hr).1) 2
    have c3 : w.cell? ⟨r.blk, 3, none⟩ = some (.int .i64 r.till) := Blk.cell (h.cells r (recOf_mem hr).1) 3
    have HO : Box _ := ⟨And.intro ho hl⟩
    clear ho hr hl
    obtain ⟨b, hb⟩ : ∃ b, r.locked = b := ⟨_, rfl⟩
    rw [hb] at c2 HO
    clear hb
    cases b with
    | false =>
      go_enter Tryz.func42, Tryz.ntmps42
      go_wp2_with fail
      refine HO.out.1.mono ?_
      rintro e w1 ⟨rfl, rfl⟩
      go_wp2
      go_ret
      rw [HO.out.2]
      exact ⟨rfl, rfl⟩
    | true =>
      go_enter Tryz.func42, Tryz.ntmps42
      go_wp2_with fail
      refine HO.out.1.mono ?_
      rintro e w1 ⟨rfl, rfl⟩
      go_wp2
      go_ret
      rw [HO.out.2]
      exact ⟨rfl, rfl⟩
end Go.Proofs.YtkcfbipnhnboaaaGreat

namespace Go.Proofs.YtkcfbipnhnboaaaGreat
open Go.RowKit Go.Maps Go.WideMaps

/-- The users, that of a name turned. -/
def updL (L : List URec) (s : ByteArray) (f : URec → URec) : List URec := L.map fun r => if r.name = s then f r else r
/-- f leaves name, secret and block alone. -/
def Keeps (f : URec → URec) : Prop := ∀ r, (f r).name = r.name ∧ (f r).secret = r.secret ∧ (f r).blk = r.blk
theorem updL_names {L : List URec} {s : ByteArray} {f : URec → URec} (hf : Keeps f) : (updL L s f).map URec.name = L.map URec.name := by
  rw [updL, List.map_map]
  apply List.map_congr_left
  intro r _
  simp only [Function.comp]
  split
  · exact (hf r).1
  · rfl
theorem updL_blks {L : List URec} {s : ByteArray} {f : URec → URec} (hf : Keeps f) : (updL L s f).map URec.blk = L.map URec.blk := by
  rw [updL, List.map_map]
  apply List.map_congr_left
  intro r _
  simp only [Function.comp]
  split
  · exact (hf r).2.2
  · rfl
theorem recOf_updL (L : List URec) (s t : ByteArray) (f : URec → URec) (hf : Keeps f) : recOf (updL L s f) t = (recOf L t).map fun r => if r.name = s then f r else r := by
  induction L with
  | nil => rfl
  | cons r L ih =>
    have hn : (if r.name = s then f r else r).name = r.name := by split; exact (hf r).1; rfl
    simp only [recOf, updL, List.map_cons, List.find?_cons, hn] at ih ⊢
    by_cases h : r.name = t
    · simp [h]
    · simp only [h, decide_false]
      exact ih
theorem blkOf_updL (L : List URec) (s t : ByteArray) (f : URec → URec) (hf : Keeps f) : blkOf (updL L s f) t = blkOf L t := by
  rw [blkOf, blkOf, recOf_updL L s t f hf]
  cases recOf L t with
  | none => rfl
  | some r =>
    simp only [Option.map_some]
    split
    · rw [(hf r).2.2]
    · rfl
theorem nodup_eq {L : List URec} {g : URec → Nat} (h : (L.map g).Nodup) {a b : URec} (ha : a ∈ L) (hb : b ∈ L) (e : g a = g b) : a = b := by
  induction L with
  | nil => cases ha
  | cons x L ih =>
    simp only [List.map_cons, List.nodup_cons, List.mem_map, not_exists, not_and] at h
    rcases List.mem_cons.1 ha with e1 | e1 <;> rcases List.mem_cons.1 hb with e2 | e2
    · rw [e1, e2]
    · rw [e1] at e; exact absurd e.symm (h.1 b e2)
    · rw [e2] at e; exact absurd e (h.1 a e1)
    · exact ih h.2 e1 e2
theorem nodup_name {L : List URec} (h : (L.map URec.name).Nodup) {a b : URec} (ha : a ∈ L) (hb : b ∈ L) (e : a.name = b.name) : a = b := by
  induction L with
  | nil => cases ha
  | cons x L ih =>
    simp only [List.map_cons, List.nodup_cons, List.mem_map, not_exists, not_and] at h
    rcases List.mem_cons.1 ha with e1 | e1 <;> rcases List.mem_cons.1 hb with e2 | e2
    · rw [e1, e2]
    · rw [e1] at e; exact absurd e.symm (h.1 b e2)
    · rw [e2] at e; exact absurd e (h.1 a e1)
    · exact ih h.2 e1 e2
/-- A user's block written anew. -/
theorem UsersAt.upd {w w' : World} {ub : Nat} {L : List URec} {s : ByteArray} {r : URec} {f : URec → URec} (h : UsersAt w ub L) (hr : recOf L s = some r) (hf : Keeps f) (h3 : (f r).fails < 3)
    (hb : Blk w' r.blk 111 (f r).cells) (hk : ∀ k, k < w.heap.size → k ≠ r.blk → w'.heap[k]? = w.heap[k]?) : UsersAt w' ub (updL L s f) := by
  obtain ⟨hm, hn⟩ := recOf_mem hr
  obtain ⟨⟨mb, h1, h2⟩, hc, ha, hnm, hf3⟩ := h
  have hrb := hc r hm
  have hub : ub ≠ r.blk := by
    intro e
    rw [e] at h1
    have := h1.symm.trans hrb
    injection this with this
    injection this with _ this _
    exact absurd this (by decide)
  have hmb : mb ≠ r.blk := by
    intro e
    obtain ⟨D, ⟨es, clock, h5, _⟩, _⟩ := h2
    rw [e] at h5
    have := h5.symm.trans hrb
    injection this with this
    cases this
  refine ⟨⟨mb, (hk _ (Blk.lt h1) hub).trans h1, ?_⟩, ?_, ?_, ?_, ?_⟩
  · have := h2.of_block (hk _ h2.lt hmb)
    rw [show (updL L s f).length = L.length by simp [updL], show blkOf (updL L s f) = blkOf L from funext fun t => blkOf_updL L s t f hf]
    exact this
  · intro x hx
    rw [updL, List.mem_map] at hx
    obtain ⟨y, hy, rfl⟩ := hx
    by_cases e : y.name = s
    · have : y = r := nodup_name hnm hy hm (e.trans hn.symm)
      subst this
      rw [if_pos e, (hf y).2.2]
      exact hb
    · rw [if_neg e]
      refine (hk _ (Blk.lt (hc y hy)) ?_).trans (hc y hy)
      intro e2
      have : y = r := nodup_eq ha hy hm e2
      subst this
      exact e hn
  · rw [updL_blks hf]; exact ha
  · rw [updL_names hf]; exact hnm
  · intro x hx
    rw [updL, List.mem_map] at hx
    obtain ⟨y, hy, rfl⟩ := hx
    by_cases e : y.name = s
    · have : y = r := nodup_name hnm hy hm (e.trans hn.symm)
      subst this
      rw [if_pos e]
      exact h3
    · rw [if_neg e]; exact hf3 y hy

def goodR (r : URec) : URec := { r with fails := 0 }
theorem goodR_keeps : Keeps goodR := fun _ => ⟨rfl, rfl, rfl⟩
def failR (now : Int) (r : URec) : URec :=
  if r.fails + 1 < 3 then { r with fails := r.fails + 1 } else { r with fails := 0, locked := true, till := if now ≤ 9223372036854775787 then now + 20 else 9223372036854775807 }
theorem failR_keeps (now : Int) : Keeps (failR now) := fun r => by unfold failR; split <;> exact ⟨rfl, rfl, rfl⟩
theorem failR_few (now : Int) (r : URec) : (failR now r).fails < 3 := by
  unfold failR
  split
  · assumption
  · exact Nat.zero_lt_succ _

set_option maxHeartbeats 1000000 in
set_option maxRecDepth 100000 in
theorem good_none (ub : Nat) (L : List URec) (s : ByteArray) (w : World) (h : UsersAt w ub L) (hs : s.size ≤ 1000000000) (hr : recOf L s = none) : Calls Tryz.prog 84 #[.pointer (some ⟨ub, 0, none⟩), .string s] w fun e w' => e = .returned (.tuple #[]) ∧ w = w' := by
  have ho := of_any ub L s w h hs
  rw [blkOf_none hr] at ho
  have HO : Box _ := ⟨ho⟩
  clear ho hr
  go_enter Tryz.func84, Tryz.ntmps84
  go_wp2_with fail
  refine HO.out.mono ?_
  rintro e w1 ⟨rfl, rfl⟩
  go_wp2
  go_end0
  exact ⟨rfl, rfl⟩

set_option maxHeartbeats 1000000 in
set_option maxRecDepth 100000 in
theorem good_some (ub : Nat) (L : List URec) (s : ByteArray) (r : URec) (w : World) (h : UsersAt w ub L) (hs : s.size ≤ 1000000000) (hr : recOf L s = some r) : Calls Tryz.prog 84 #[.pointer (some ⟨ub, 0, none⟩), .string s] w fun e w' => e = .returned (.tuple #[]) ∧ UsersAt w' ub (updL L s goodR) ∧ w.grownBy w' (some r.blk) := by
  have ho := of_any ub L s w h hs
  rw [blkOf_some hr] at ho
  have hb := h.cells r (recOf_mem hr).1
  have hset : ∀ w' : World, w' = w.setCell ⟨r.blk, 1, none⟩ (.int .i64 0) → UsersAt w' ub (updL L s goodR) ∧ w.grownBy w' (some r.blk) := by
    rintro w' rfl
    refine ⟨h.upd hr goodR_keeps (Nat.zero_lt_succ _) (Blk.set hb 1 (.int .i64 0)) (fun k _ hk => Below.heap_setCell w ⟨r.blk, 1, none⟩ _ k hk), grown_set w ⟨r.blk, 1, none⟩ _⟩
  have c1 : w.cell? ⟨r.blk, 1, none⟩ = some (.int .i64 (r.fails : Int)) := Blk.cell hb 1
  have f1 : w.frozen? ⟨r.blk, 1, none⟩ = false := Blk.free hb 1
  have HO : Box _ := ⟨And.intro ho hset⟩
  clear ho hset hr hb
  go_enter Tryz.func84, Tryz.ntmps84
  go_wp2_with fail
  refine HO.out.1.mono ?_
  rintro e w1 ⟨rfl, rfl⟩
  go_wp2_with fail
  refine (i64Store ⟨r.blk, 1, none⟩ 0 _ _ c1 f1).mono ?_
  rintro e w2 ⟨rfl, hw2⟩
  have H2 := Box.mk (HO.out.2 _ hw2)
  clear hw2
  go_wp2
  go_end0
  exact ⟨rfl, H2.out⟩

set_option maxHeartbeats 1000000 in
set_option maxRecDepth 100000 in
theorem fail_none (ub : Nat) (L : List URec) (s : ByteArray) (now : Int) (w : World) (h : UsersAt w ub L) (hs : s.size ≤ 1000000000) (hr : recOf L s = none) : Calls Tryz.prog 34 #[.pointer (some ⟨ub, 0, none⟩), .string s, .int .i64 now] w fun e w' => e = .returned (.bool false) ∧ w = w' := by
  have ho := of_any ub L s w h hs
  rw [blkOf_none hr] at ho
  have HO : Box _ := ⟨ho⟩
  clear ho hr
  go_enter Tryz.func34, Tryz.ntmps34
  go_wp2_with fail
  refine HO.out.mono ?_
  rintro e w1 ⟨rfl, rfl⟩
  go_wp2
  go_ret
  exact ⟨rfl, rfl⟩

set_option maxHeartbeats 1000000 in
set_option maxRecDepth 100000 in
theorem fail_some (ub : Nat) (L : List URec) (s : ByteArray) (r : URec) (now : Int) (w : World) (hn : -9223372036854775808 ≤ now) (hn2 : now ≤ 9223372036854775807) (h : UsersAt w ub L) (hs : s.size ≤ 1000000000) (hr : recOf L s = some r) : Calls Tryz.prog 34 #[.pointer (some ⟨ub, 0, none⟩), .string s, .int .i64 now] w fun e w' => e = .returned (.bool (decide (¬ r.fails + 1 < 3))) ∧ UsersAt w' ub (updL L s (failR now)) ∧ w.grownBy w' (some r.blk) := by
  have ho := of_any ub L s w h hs
  rw [blkOf_some hr] at ho
  have hb := h.cells r (recOf_mem hr).1
  have h3 := h.few r (recOf_mem hr).1
  have hcl : ∀ x, Blk w r.blk x r.cells → Blk w r.blk x r.cells := fun _ h => h
  have hset : ∀ w' : World, Blk w' r.blk 111 (failR now r).cells → w.grownBy w' (some r.blk) → UsersAt w' ub (updL L s (failR now)) ∧ w.grownBy w' (some r.blk) := fun w' h1 h2 =>
    ⟨h.upd hr (failR_keeps now) (failR_few now r) h1 (fun k hk hne => h2.block k hk (fun e => hne (by cases e; rfl))), h2⟩
  have c1 : w.cell? ⟨r.blk, 1, none⟩ = some (.int .i64 (r.fails : Int)) := Blk.cell hb 1
  have f1 : w.frozen? ⟨r.blk, 1, none⟩ = false := Blk.free hb 1
  have HO : Box _ := ⟨And.intro ho (And.intro hset hb)⟩
  have hfr : failR now r = (if r.fails + 1 < 3 then { r with fails := r.fails + 1 } else { r with fails := 0, locked := true, till := if now ≤ 9223372036854775787 then now + 20 else 9223372036854775807 }) := rfl
  have HF : Box _ := ⟨hfr⟩
  clear ho hset hr hb h hcl hfr
  by_cases hlow : r.fails + 1 < 3
  · have hd : decide (¬ r.fails + 1 < 3) = false := by simp; omega
    rw [hd]
    go_enter Tryz.func34, Tryz.ntmps34
    go_wp2_with fail
    refine HO.out.1.mono ?_
    rintro e w1 ⟨rfl, rfl⟩
    go_wp2_with fail
    refine (i64Add ⟨r.blk, 1, none⟩ (r.fails : Int) 1 _ c1 f1 (IntWalk.i64_in _ (by omega))).mono ?_
    rintro e w2 ⟨rfl, hw2⟩
    have hx : UsersAt w2 ub (updL L s (failR now)) ∧ w.grownBy w2 (some r.blk) := by
      refine HO.out.2.1 w2 ?_ (by rw [hw2]; exact grown_set w _ _)
      rw [hw2, HF.out, if_pos hlow]
      exact Blk.set HO.out.2.2 1 _
    have H2 := Box.mk hx
    clear hw2 hx
    go_wp2
    go_ret
    exact ⟨rfl, H2.out⟩
  · have hd : decide (¬ r.fails + 1 < 3) = true := by simp; omega
    rw [hd]
    go_enter Tryz.func34, Tryz.ntmps34
    go_wp2_with fail
    refine HO.out.1.mono ?_
    rintro e w1 ⟨rfl, rfl⟩
    go_wp2_with fail
    refine (i64Add ⟨r.blk, 1, none⟩ (r.fails : Int) 1 _ c1 f1 (IntWalk.i64_in _ (by omega))).mono ?_
    rintro e w2 ⟨rfl, hw2⟩
    have hb2 : Blk w2 r.blk 111 #[.string r.secret, .int .i64 ((r.fails : Int) + 1), .bool r.locked, .int .i64 r.till] := by rw [hw2]; exact Blk.set HO.out.2.2 1 _
    have hg2 : w.grownBy w2 (some r.blk) := by rw [hw2]; exact grown_set w _ _
    clear hw2
    have H2 := Box.mk (And.intro hb2 hg2)
    clear hb2 hg2
    go_wp2_with fail
    refine (i64Store ⟨r.blk, 1, none⟩ 0 _ _ (Blk.cell H2.out.1 1) (Blk.free H2.out.1 1)).mono ?_
    rintro e w3 ⟨rfl, hw3⟩
    have hb3 : Blk w3 r.blk 111 #[.string r.secret, .int .i64 0, .bool r.locked, .int .i64 r.till] := by rw [hw3]; exact Blk.set H2.out.1 1 _
    have hg3 : w.grownBy w3 (some r.blk) := by rw [hw3]; exact grown_set_more H2.out.2 1 _
    have d2 : w3.cell? ⟨r.blk, 2, none⟩ = some (.bool r.locked) := Blk.cell hb3 2
    have d3 : w3.cell? ⟨r.blk, 3, none⟩ = some (.int .i64 r.till) := Blk.cell hb3 3
    have e2 : w3.frozen? ⟨r.blk, 2, none⟩ = false := Blk.free hb3 2
    have e3 : w3.frozen? ⟨r.blk, 3, none⟩ = false := Blk.free hb3 3
    clear hw3
    have H3 := Box.mk (And.intro hb3 hg3)
    clear hb3 hg3
    by_cases hmax : now ≤ 9223372036854775787
    · have hsum : now + 20 ≤ 9223372036854775807 := by omega
      go_wp2
      go_ret
      refine ⟨rfl, HO.out.2.1 _ ?_ (grown_set_more (grown_set_more (grown_set_more H3.out.2 2 _) 3 _) 3 _)⟩
      rw [HF.out, if_neg hlow, if_pos hmax]
      exact Blk.set (Blk.set (Blk.set H3.out.1 2 _) 3 _) 3 _
    · go_wp2
      go_ret
      refine ⟨rfl, HO.out.2.1 _ ?_ (grown_set_more (grown_set_more (grown_set_more H3.out.2 2 _) 3 _) 3 _)⟩
      rw [HF.out, if_neg hlow, if_neg (by omega)]
      exact Blk.set (Blk.set (Blk.set H3.out.1 2 _) 3 _) 3 _
end Go.Proofs.YtkcfbipnhnboaaaGreat

namespace Go.Proofs.YtkcfbipnhnboaaaGreat
open Go.RowKit

theorem nameOk_size {u : ByteArray} (h : nameOk u = true) : 1 ≤ u.size ∧ u.size ≤ 20 := by
  rw [nameOk, Bool.and_eq_true] at h
  exact of_decide_eq_true h.2
theorem userOk_iff (u s : ByteArray) : userOk u s = true ↔ (nameOk u = true ∧ s.size = 32) := by
  rw [userOk, Bool.and_eq_true, decide_eq_true_iff]

/-- What NewGuest hands back: nil, or a new guest. -/
def GuestNew (ok : Bool) (u s n : ByteArray) (w : World) (e : Ending) (w' : World) : Prop :=
  if ok then ∃ g, w.heap.size ≤ g ∧ e = .returned (.pointer (some ⟨g, 0, none⟩)) ∧ Blk w' g 90 (guestC u s (helloB u n) ByteArray.empty 0) ∧ Below w.heap.size w w' else e = .returned (.pointer none) ∧ Below w.heap.size w w'

set_option maxHeartbeats 1000000 in
set_option maxRecDepth 100000 in
theorem newGuest_any (u s n : ByteArray) (w : World) (hu : u.size ≤ 1000000000) : Calls Tryz.prog 13 #[.agg #[.string u, .string s], .string n] w (GuestNew (userOk u s && decide (n.size = 16)) u s n w) := by
  have hRt : ∀ W : World, Calls Tryz.prog 43 #[.agg #[.string u, .string s]] W fun e w' => e = .returned (.bool (userOk u s)) ∧ Below W.heap.size W w' := fun W => right_any_user u s W hu
  have hA : Blk (w.alloc (.cells #[.string u, .string s] 23)) w.heap.size 23 #[.string u, .string s] := Blk.new w _
  have hal : Below w.heap.size w (w.alloc (.cells #[.string u, .string s] 23)) := (Below.refl _ _).alloc (Nat.le_refl _) _
  have HA : Box _ := ⟨And.intro hA hal⟩
  by_cases hok : helloOk u n
  · have hn16 : decide (n.size = 16) = true := decide_eq_true hok.1
    have HP : Box (∀ W : World, Calls Tryz.prog 38 #[.agg #[.string u, .string n]] W fun e w' => e = .returned (.tuple #[.string (helloB u n), .bool true]) ∧ Below W.heap.size W w') := ⟨fun W => putHello_yes u n W hok⟩
    obtain ⟨h, hh⟩ : ∃ h, helloB u n = h := ⟨_, rfl⟩
    obtain ⟨q, hq⟩ : ∃ q, userOk u s = q := ⟨_, rfl⟩
    rw [hn16, hq, Bool.and_true]
    rw [hh] at HP
    rw [hq] at hRt
    have HRT : Box _ := ⟨hRt⟩
    have HH : Box _ := ⟨hh⟩
    clear hRt hA hal hok hn16 hh hq
    cases q with
    | false =>
      go_enter Tryz.func13, Tryz.ntmps13
      go_wp2_with fail
      refine (HP.out _).mono ?_
      rintro e w1 ⟨rfl, hb1⟩
      have h1 := Blk.below HA.out.1 hb1
      have HB1 : Box _ := ⟨And.intro h1 (HA.out.2.trans (hb1.mono HA.out.2.size))⟩
      have c0 : w1.cell? ⟨w.heap.size, 0, none⟩ = some (.string u) := Blk.cell h1 0
      have c1 : w1.cell? ⟨w.heap.size, 1, none⟩ = some (.string s) := Blk.cell h1 1
      clear hb1 h1
      go_wp2_with fail
      refine (HRT.out _).mono ?_
      rintro e w2 ⟨rfl, hb2⟩
      have HB2 : Box _ := ⟨HB1.out.2.trans (hb2.mono HB1.out.2.size)⟩
      clear hb2
      go_wp2
      go_ret
      exact ⟨rfl, HB2.out⟩
    | true =>
      go_enter Tryz.func13, Tryz.ntmps13
      go_wp2_with fail
      refine (HP.out _).mono ?_
      rintro e w1 ⟨rfl, hb1⟩
      have h1 := Blk.below HA.out.1 hb1
      have HB1 : Box _ := ⟨And.intro h1 (HA.out.2.trans (hb1.mono HA.out.2.size))⟩
      have c0 : w1.cell? ⟨w.heap.size, 0, none⟩ = some (.string u) := Blk.cell h1 0
      have c1 : w1.cell? ⟨w.heap.size, 1, none⟩ = some (.string s) := Blk.cell h1 1
      clear hb1 h1
      go_wp2_with fail
      refine (HRT.out _).mono ?_
      rintro e w2 ⟨rfl, hb2⟩
      have h2 := Blk.below HB1.out.1 hb2
      have HB2 : Box _ := ⟨HB1.out.2.trans (hb2.mono HB1.out.2.size)⟩
      have d0 : w2.cell? ⟨w.heap.size, 0, none⟩ = some (.string u) := Blk.cell h2 0
      have d1 : w2.cell? ⟨w.heap.size, 1, none⟩ = some (.string s) := Blk.cell h2 1
      clear hb2 h2
      go_wp2
      go_ret
      refine ⟨w2.heap.size, HB2.out.size, rfl, ?_, HB2.out.alloc HB2.out.size _⟩
      rw [HH.out]
      exact Blk.new w2 _
  · have hno : (userOk u s && decide (n.size = 16)) = false := by
      cases hq : userOk u s with
      | false => rfl
      | true =>
        have h1 := nameOk_size ((userOk_iff u s).1 hq).1
        rw [decide_eq_false (fun e => hok ⟨e, h1⟩)]
        rfl
    rw [hno]
    have HP : Box (∀ W : World, Calls Tryz.prog 38 #[.agg #[.string u, .string n]] W fun e w' => e = .returned (.tuple #[.string ByteArray.empty, .bool false]) ∧ Below W.heap.size W w') := ⟨fun W => putHello_no u n W hok⟩
    clear hRt hA hal hok hno
    go_enter Tryz.func13, Tryz.ntmps13
    go_wp2_with fail
    refine (HP.out _).mono ?_
    rintro e w1 ⟨rfl, hb1⟩
    have HB1 : Box _ := ⟨HA.out.2.trans (hb1.mono HA.out.2.size)⟩
    clear hb1
    go_wp2
    go_ret
    exact ⟨rfl, HB1.out⟩

/-! ### hosts -/
/-- How a host stands. -/
structure HSt where
  nonce : ByteArray
  got : Nat
  bad : Bool
  user : ByteArray
  papers : ByteArray
  done : Bool
  up : ByteArray
  down : ByteArray
/-- A host's cells. -/
def hostC (ub : Nat) (h : HSt) : Array Value :=
  #[.pointer (some ⟨ub, 0, none⟩), .string h.nonce, .int .i64 (h.got : Int), .bool h.bad, .string h.user, .string h.papers, .int .u32 (if h.done then 1 else 0), .int .i32 0, .int .u32 0, .bool h.done, .string h.up, .string h.down]
def hostNew (n : ByteArray) : HSt := ⟨n, 0, false, ByteArray.empty, ByteArray.empty, false, ByteArray.empty, ByteArray.empty⟩

set_option maxHeartbeats 1000000 in
set_option maxRecDepth 100000 in
theorem newHost_yes (ub : Nat) (n : ByteArray) (w : World) (hn : n.size = 16) : Calls Tryz.prog 29 #[.pointer (some ⟨ub, 0, none⟩), .string n] w fun e w' => e = .returned (.pointer (some ⟨w.heap.size, 0, none⟩)) ∧ Blk w' w.heap.size 123 (hostC ub (hostNew n)) ∧ Below w.heap.size w w' := by
  have hq : ((n.size : Int) != 16) = false := by simp; omega
  clear hn
  go_enter Tryz.func29, Tryz.ntmps29
  go_wp2
  go_ret
  exact ⟨rfl, Blk.new w _, (Below.refl _ _).alloc (Nat.le_refl _) _⟩

set_option maxHeartbeats 1000000 in
set_option maxRecDepth 100000 in
theorem newHost_nil (n : ByteArray) (w : World) : Calls Tryz.prog 29 #[.pointer none, .string n] w fun e w' => e = .returned (.pointer none) ∧ w = w' := by
  go_enter Tryz.func29, Tryz.ntmps29
  go_wp2
  go_ret
  exact ⟨rfl, rfl⟩

set_option maxHeartbeats 1000000 in
set_option maxRecDepth 100000 in
theorem newHost_short (ub : Nat) (n : ByteArray) (w : World) (hn : n.size ≠ 16) : Calls Tryz.prog 29 #[.pointer (some ⟨ub, 0, none⟩), .string n] w fun e w' => e = .returned (.pointer none) ∧ w = w' := by
  have hq : ((n.size : Int) != 16) = true := by simp; omega
  clear hn
  go_enter Tryz.func29, Tryz.ntmps29
  go_wp2
  go_ret
  exact ⟨rfl, rfl⟩

set_option maxHeartbeats 1000000 in
set_option maxRecDepth 100000 in
theorem hDone_any (hb ub : Nat) (h : HSt) (w : World) (hB : Blk w hb 123 (hostC ub h)) : Calls Tryz.prog 31 #[.pointer (some ⟨hb, 0, none⟩)] w fun e w' => e = .returned (.bool h.done) ∧ w = w' := by
  have c9 : w.cell? ⟨hb, 9, none⟩ = some (.bool h.done) := Blk.cell hB 9
  go_enter Tryz.func31, Tryz.ntmps31
  go_wp2
  go_ret
  exact ⟨rfl, rfl⟩

set_option maxHeartbeats 1000000 in
set_option maxRecDepth 100000 in
theorem hDone_nil (w : World) : Calls Tryz.prog 31 #[.pointer none] w fun e w' => e = .returned (.bool false) ∧ w = w' := by
  go_enter Tryz.func31, Tryz.ntmps31
  go_wp2
  go_ret
  exact ⟨rfl, rfl⟩

set_option maxHeartbeats 1000000 in
set_option maxRecDepth 100000 in
theorem hUser_any (hb ub : Nat) (h : HSt) (w : World) (hB : Blk w hb 123 (hostC ub h)) : Calls Tryz.prog 32 #[.pointer (some ⟨hb, 0, none⟩)] w fun e w' => e = .returned (.string h.user) ∧ w = w' := by
  have c4 : w.cell? ⟨hb, 4, none⟩ = some (.string h.user) := Blk.cell hB 4
  go_enter Tryz.func32, Tryz.ntmps32
  go_wp2
  go_ret
  exact ⟨rfl, rfl⟩

set_option maxHeartbeats 1000000 in
set_option maxRecDepth 100000 in
theorem hUser_nil (w : World) : Calls Tryz.prog 32 #[.pointer none] w fun e w' => e = .returned (.string ByteArray.empty) ∧ w = w' := by
  go_enter Tryz.func32, Tryz.ntmps32
  go_wp2
  go_ret
  exact ⟨rfl, rfl⟩

set_option maxHeartbeats 1000000 in
set_option maxRecDepth 100000 in
theorem hKeys_any (hb ub : Nat) (h : HSt) (w : World) (hB : Blk w hb 123 (hostC ub h)) : Calls Tryz.prog 33 #[.pointer (some ⟨hb, 0, none⟩)] w fun e w' => e = .returned (.agg #[.string h.up, .string h.down]) ∧ Below w.heap.size w w' := by
  have c10 : w.cell? ⟨hb, 10, none⟩ = some (.string h.up) := Blk.cell hB 10
  have c11 : w.cell? ⟨hb, 11, none⟩ = some (.string h.down) := Blk.cell hB 11
  have hlt := Blk.lt hB
  go_enter Tryz.func33, Tryz.ntmps33
  go_wp2
  refine bodyPost_ret (results_cell_row (P := Tryz.prog) Tryz.results33 _ _ w.heap.size 44 #[.string h.up, .string h.down] (0, 0) _ rfl (Blk.new w _) Tryz.underlying44 rfl (by kernel_rfl)) rfl ⟨rfl, ?_⟩
  exact (Below.refl _ _).alloc (Nat.le_refl _) _

set_option maxHeartbeats 1000000 in
set_option maxRecDepth 100000 in
theorem hKeys_nil (w : World) : Calls Tryz.prog 33 #[.pointer none] w fun e w' => e = .returned (.agg #[.string ByteArray.empty, .string ByteArray.empty]) ∧ Below w.heap.size w w' := by
  go_enter Tryz.func33, Tryz.ntmps33
  go_wp2
  refine bodyPost_ret (results_cell_row (P := Tryz.prog) Tryz.results33 _ _ w.heap.size 44 #[.string ⟨#[]⟩, .string ⟨#[]⟩] (0, 0) _ rfl (Blk.new w _) Tryz.underlying44 rfl (by kernel_rfl)) rfl ⟨rfl, ?_⟩
  exact (Below.refl _ _).alloc (Nat.le_refl _) _
end Go.Proofs.YtkcfbipnhnboaaaGreat

namespace Go.Proofs.YtkcfbipnhnboaaaGreat
open Go.RowKit

set_option maxHeartbeats 1000000 in
set_option maxRecDepth 100000 in
theorem greeted_no (hb : Nat) (b : ByteArray) (w : World) (hs : b.size ≤ 1000000) (hi : isHello b = false) : Calls Tryz.prog 59 #[.pointer (some ⟨hb, 0, none⟩), .string b] w fun e w' => e = .returned (.tuple #[.string ByteArray.empty, .int .i64 2]) ∧ Below w.heap.size w w' := by
  have HG : Box (∀ W : World, Calls Tryz.prog 80 #[.string b] W fun e w' => e = .returned (.tuple #[.agg #[.string ByteArray.empty, .string ByteArray.empty], .bool false]) ∧ Below W.heap.size W w') := ⟨fun W => by have := getHello_any b W (by omega); rw [hi] at this; exact this⟩
  clear hi
  go_enter Tryz.func59, Tryz.ntmps59
  go_wp2_with fail
  refine (HG.out _).mono ?_
  rintro e w1 ⟨rfl, hb1⟩
  have HB1 : Box _ := ⟨hb1⟩
  clear hb1
  go_wp2
  go_ret2
  exact ⟨rfl, HB1.out.alloc HB1.out.size _⟩

theorem letterB_size (k : Nat) (n : ByteArray) : (letterB k n).size = n.size + 1 := by
  rw [letterB, ByteArray.size_append, strOf_size]
  simp; omega

set_option maxHeartbeats 1000000 in
set_option maxRecDepth 100000 in
theorem greeted_yes (hb ub : Nat) (h : HSt) (b : ByteArray) (w : World) (hs : b.size ≤ 1000000) (hi : isHello b = true) (hn : h.nonce.size = 16) (hB : Blk w hb 123 (hostC ub h)) : Calls Tryz.prog 59 #[.pointer (some ⟨hb, 0, none⟩), .string b] w fun e w' => e = .returned (.tuple #[.string (letterB 2 h.nonce), .int .i64 0]) ∧ Blk w' hb 123 (hostC ub { h with user := helloUser b, papers := b ++ letterB 2 h.nonce }) ∧ w.grownBy w' (some hb) := by
  have HG : Box (∀ W : World, Calls Tryz.prog 80 #[.string b] W fun e w' => e = .returned (.tuple #[.agg #[.string (helloUser b), .string (helloNonce b)], .bool true]) ∧ Below W.heap.size W w') := ⟨fun W => by have := getHello_any b W (by omega); rw [hi] at this; exact this⟩
  have HP : Box (∀ W : World, Calls Tryz.prog 81 #[.agg #[.string h.nonce]] W fun e w' => e = .returned (.tuple #[.string (letterB 2 h.nonce), .bool true]) ∧ Below W.heap.size W w') := ⟨fun W => putChallenge_any h.nonce W hn⟩
  have hls := letterB_size 2 h.nonce
  have hset : ∀ (x y : ByteArray) (W : World), Blk W hb 123 (hostC ub h) → Blk ((W.setCell ⟨hb, 4, none⟩ (.string x)).setCell ⟨hb, 5, none⟩ (.string y)) hb 123 (hostC ub { h with user := x, papers := y }) ∧ Blk ((W.setCell ⟨hb, 5, none⟩ (.string y)).setCell ⟨hb, 4, none⟩ (.string x)) hb 123 (hostC ub { h with user := x, papers := y }) := fun x y W hW =>
    ⟨Blk.set (Blk.set hW 4 _) 5 _, Blk.set (Blk.set hW 5 _) 4 _⟩
  obtain ⟨u, hu⟩ : ∃ u, helloUser b = u := ⟨_, rfl⟩
  obtain ⟨n, hnn⟩ : ∃ n, helloNonce b = n := ⟨_, rfl⟩
  obtain ⟨c, hc⟩ : ∃ c, letterB 2 h.nonce = c := ⟨_, rfl⟩
  rw [hu, hnn] at HG
  rw [hc] at HP
  rw [hc] at hls
  have hcs : c.size ≤ 100 := by omega
  rw [hu, hc]
  have HB0 : Box _ := ⟨And.intro hB hset⟩
  have hlt := Blk.lt hB
  have c1 : ∀ W : World, Blk W hb 123 (hostC ub h) → W.cell? ⟨hb, 1, none⟩ = some (.string h.nonce) := fun W hW => Blk.cell hW 1
  have HC1 : Box _ := ⟨c1⟩
  clear hi hn hu hnn hc hls hB hset c1
  go_enter Tryz.func59, Tryz.ntmps59
  go_wp2_with fail
  refine (HG.out _).mono ?_
  rintro e w1 ⟨rfl, hb1⟩
  have hB1 := Blk.below HB0.out.1 hb1
  have HB1 : Box _ := ⟨And.intro hb1 hB1⟩
  have d1 : w1.cell? ⟨hb, 1, none⟩ = some (.string h.nonce) := HC1.out _ hB1
  have hlt1 := Blk.lt hB1
  clear hb1 hB1
  go_wp2_with fail
  refine (HP.out _).mono ?_
  rintro e w2 ⟨rfl, hb2⟩
  have hx2 : Blk w2 w1.heap.size 32 #[.string u, .string n] := Blk.below (Blk.new w1 _) hb2
  have hB2 : Blk w2 hb 123 (hostC ub h) := Blk.below (Blk.alloc HB1.out.2 _) hb2
  have hbw2 : Below w.heap.size w w2 := (HB1.out.1.alloc HB1.out.1.size _).trans (hb2.mono (by simp; have := HB1.out.1.size; omega))
  have e0 : w2.cell? ⟨w1.heap.size, 0, none⟩ = some (.string u) := Blk.cell hx2 0
  have e4 : w2.cell? ⟨hb, 4, none⟩ = some (.string h.user) := Blk.cell hB2 4
  have e5 : w2.cell? ⟨hb, 5, none⟩ = some (.string h.papers) := Blk.cell hB2 5
  have f4 : w2.frozen? ⟨hb, 4, none⟩ = false := Blk.free hB2 4
  have f5 : w2.frozen? ⟨hb, 5, none⟩ = false := Blk.free hB2 5
  have H2 : Box _ := ⟨And.intro hB2 hbw2⟩
  clear hb2 hx2 hB2 hbw2 d1
  go_upto_region 5 with fail
  go_cut [8] (fun v W => v = .string c ∧ Box (Blk W hb 123 (hostC ub { h with user := u, papers := b ++ c }) ∧ w.grownBy W (some hb)))
  case first =>
    go_region_with (go_at_call 25; refine (papers_any b c _ (by omega) (by omega)).mono ?_; rintro e w6 ⟨rfl, rfl⟩)
    all_goals
      go_wp2_with fail
      go_meet
      refine ⟨rfl, ⟨?_, ?_⟩⟩
      · first | exact (HB0.out.2 u (b ++ c) _ (Blk.drew H2.out.1)).1 | exact (HB0.out.2 u (b ++ c) _ (Blk.drew H2.out.1)).2
      · first | exact grown_set_more (grown_set_more (grown_drew (grown_below H2.out.2 _)) 4 _) 5 _ | exact grown_set_more (grown_set_more (grown_drew (grown_below H2.out.2 _)) 5 _) 4 _
  case rest =>
    obtain ⟨rfl, HX⟩ := hcut
    go_wp2
    go_ret2
    exact ⟨rfl, HX.out⟩
end Go.Proofs.YtkcfbipnhnboaaaGreat

namespace Go.Proofs.YtkcfbipnhnboaaaGreat
open Go.RowKit Go.MuLone

theorem blk_ne {w : World} {g g' : Nat} {t t' : TypeId} {cs cs' : Array Value} (h : Blk w g t cs) (h' : Blk w g' t' cs') (ht : t ≠ t') : g ≠ g' := by
  rintro rfl
  have e := h.symm.trans h'
  injection e with e
  injection e with _ e _
  exact ht e

/-- A host's cells while Once is at work. -/
def hostX (ub : Nat) (h : HSt) (oc : Int) (st : Int) : Array Value :=
  #[.pointer (some ⟨ub, 0, none⟩), .string h.nonce, .int .i64 (h.got : Int), .bool h.bad, .string h.user, .string h.papers, .int .u32 oc, .int .i32 st, .int .u32 0, .bool h.done, .string h.up, .string h.down]
theorem hostC_open (ub : Nat) (h : HSt) (hd : h.done = false) : hostC ub h = hostX ub h 0 0 := by simp only [hostC, hostX, hd, Bool.false_eq_true, if_false]
theorem hostC_done (ub : Nat) (h : HSt) (hd : h.done = true) : hostC ub h = hostX ub h 1 0 := by simp only [hostC, hostX, hd, if_true]

/-- What the function leaves. -/
def ClQ (hb p k ub : Nat) (h : HSt) (s : ByteArray) (w0 w2 : World) : Prop :=
  Blk w2 hb 123 (hostX ub { h with done := true, up := upOf s h.papers, down := downOf s h.papers } 0 1) ∧ Blk w2 p 56 #[.pointer (some ⟨hb, 0, none⟩)] ∧ Blk w2 k 9 #[.string s] ∧ w0.grownBy w2 (some hb)

set_option maxHeartbeats 1000000 in
set_option maxRecDepth 100000 in
theorem provedFn (hb p k ub : Nat) (h : HSt) (s : ByteArray) (w : World) (hs : s.size ≤ 100000) (hps : h.papers.size ≤ 1000000) (hP : Blk w p 56 #[.pointer (some ⟨hb, 0, none⟩)]) (hK : Blk w k 9 #[.string s]) (hB : Blk w hb 123 (hostX ub h 0 1)) :
    Calls Tryz.prog 86 #[.pointer (some ⟨k, 0, none⟩), .pointer (some ⟨p, 0, none⟩)] w (fun e w' => e = .returned (.tuple #[]) ∧ ClQ hb p k ub h s w w') := by
  have hne1 : p ≠ hb := blk_ne hP hB (by decide)
  have hne2 : k ≠ hb := blk_ne hK hB (by decide)
  have hne3 : hb ≠ p := fun e => hne1 e.symm
  have hne4 : hb ≠ k := fun e => hne2 e.symm
  have HKC : Box (∀ W : World, Calls Tryz.prog 55 #[.string s, .string h.papers] W fun e w' => e = .returned (.agg #[.string (upOf s h.papers), .string (downOf s h.papers)]) ∧ Below W.heap.size W w') := ⟨fun W => keys_any s h.papers W (by omega) (by omega)⟩
  obtain ⟨ku, hku⟩ : ∃ ku, upOf s h.papers = ku := ⟨_, rfl⟩
  obtain ⟨kd, hkd⟩ : ∃ kd, downOf s h.papers = kd := ⟨_, rfl⟩
  have hq : ∀ W, (Blk W hb 123 (hostX ub { h with done := true, up := ku, down := kd } 0 1) ∧ Blk W p 56 #[.pointer (some ⟨hb, 0, none⟩)] ∧ Blk W k 9 #[.string s] ∧ w.grownBy W (some hb)) → ClQ hb p k ub h s w W := fun W hW => by unfold ClQ; rw [hku, hkd]; exact hW
  have hset : ∀ W : World, Blk W hb 123 (hostX ub h 0 1) → Blk (((W.setCell ⟨hb, 9, none⟩ (.bool true)).setCell ⟨hb, 10, none⟩ (.string ku)).setCell ⟨hb, 11, none⟩ (.string kd)) hb 123 (hostX ub { h with done := true, up := ku, down := kd } 0 1) ∧ Blk (((W.setCell ⟨hb, 10, none⟩ (.string ku)).setCell ⟨hb, 11, none⟩ (.string kd)).setCell ⟨hb, 9, none⟩ (.bool true)) hb 123 (hostX ub { h with done := true, up := ku, down := kd } 0 1) := fun W hW =>
    ⟨Blk.set (Blk.set (Blk.set hW 9 _) 10 _) 11 _, Blk.set (Blk.set (Blk.set hW 10 _) 11 _) 9 _⟩
  rw [hku, hkd] at HKC
  have cp : w.cell? ⟨p, 0, none⟩ = some (.pointer (some ⟨hb, 0, none⟩)) := Blk.cell hP 0
  have ck : w.cell? ⟨k, 0, none⟩ = some (.string s) := Blk.cell hK 0
  have c5 : w.cell? ⟨hb, 5, none⟩ = some (.string h.papers) := Blk.cell hB 5
  have H0 : Box _ := ⟨And.intro hP (And.intro hK (And.intro hB (And.intro hset hq)))⟩
  clear hP hK hB hku hkd hset hq
  go_enter Tryz.func86, Tryz.ntmps86
  go_wp2_with fail
  go_region_held3 (fun W => W.cell? ⟨p, 0, none⟩ = some (.pointer (some ⟨hb, 0, none⟩)) ∧ W.cell? ⟨k, 0, none⟩ = some (.string s) ∧ W.cell? ⟨hb, 5, none⟩ = some (.string h.papers)) (first | exact ⟨dp, dk, d5⟩ | ((refine ⟨?_, ?_, ?_⟩) <;> (repeat rw [World.cell?_setCell_other _ _ _ _ (by first | (simp; done) | (simp [*]; done))]) <;> assumption) | go_keep)
    ((go_at_call 55; refine (HKC.out _).mono ?_; rintro e w6 ⟨rfl, hb6⟩; have hB6 := Blk.below (Blk.drew H0.out.2.2.1) hb6; have hP6 := Blk.below (Blk.drew H0.out.1) hb6; have dp : w6.cell? ⟨p, 0, none⟩ = some (.pointer (some ⟨hb, 0, none⟩)) := Blk.cell hP6 0; have dk : w6.cell? ⟨k, 0, none⟩ = some (.string s) := Blk.cell (Blk.below (Blk.drew H0.out.2.1) hb6) 0; have d5 : w6.cell? ⟨hb, 5, none⟩ = some (.string h.papers) := Blk.cell hB6 5; have d9 : w6.cell? ⟨hb, 9, none⟩ = some (.bool h.done) := Blk.cell hB6 9; have d10 : w6.cell? ⟨hb, 10, none⟩ = some (.string h.up) := Blk.cell hB6 10; have d11 : w6.cell? ⟨hb, 11, none⟩ = some (.string h.down) := Blk.cell hB6 11; have f9 : w6.frozen? ⟨hb, 9, none⟩ = false := Blk.free hB6 9; have f10 : w6.frozen? ⟨hb, 10, none⟩ = false := Blk.free hB6 10; have f11 : w6.frozen? ⟨hb, 11, none⟩ = false := Blk.free hB6 11; have H6 : Box _ := ⟨And.intro hb6 (And.intro hB6 hP6)⟩; clear hb6 hB6 hP6))
  all_goals
    go_wp2
    go_end0
    have hK6 := Blk.below (Blk.drew H0.out.2.1) H6.out.1
    have hg6 : w.grownBy _ (some hb) := grown_trans (grown_drew (grown_below (Below.refl _ w) (some hb))) (grown_below H6.out.1 none) (by simp)
    refine ⟨rfl, H0.out.2.2.2.2 _ ⟨?_, ?_, ?_, ?_⟩⟩
    · first | exact (H0.out.2.2.2.1 _ H6.out.2.1).1 | exact (H0.out.2.2.2.1 _ H6.out.2.1).2
    · exact Blk.far (Blk.far (Blk.far H6.out.2.2 hne1 _) hne1 _) hne1 _
    · exact Blk.far (Blk.far (Blk.far hK6 hne2 _) hne2 _) hne2 _
    · exact grown_set_more (grown_set_more (grown_set_more hg6 _ _) _ _) _ _

theorem pfn_enters (args : Array Value) (w : World) : (callFunc 86 args).run Tryz.prog w = .ok (.enter 86 args) w :=
  run_callFunc_enter Tryz.func86 (by kernel_rfl) rfl args w

/-- How Do leaves a host. -/
def DoEnd (hb p k ub : Nat) (h : HSt) (s : ByteArray) (w : World) (e : Ending) (w' : World) : Prop :=
  e = .returned (.tuple #[]) ∧ Blk w' hb 123 (hostC ub { h with done := true, up := upOf s h.papers, down := downOf s h.papers }) ∧ Blk w' p 56 #[.pointer (some ⟨hb, 0, none⟩)] ∧ Blk w' k 9 #[.string s] ∧ w.grownBy w' (some hb)

theorem hostDo (hb p k ub : Nat) (h : HSt) (s : ByteArray) (w : World) (hd : h.done = false) (hs : s.size ≤ 100000) (hps : h.papers.size ≤ 1000000) (hP : Blk w p 56 #[.pointer (some ⟨hb, 0, none⟩)]) (hK : Blk w k 9 #[.string s]) (hB : Blk w hb 123 (hostC ub h)) :
    Calls Tryz.prog 85 #[.pointer (some ⟨hb, 6, none⟩), .func (.func 86) #[] #[.pointer (some ⟨k, 0, none⟩), .pointer (some ⟨p, 0, none⟩)]] w (DoEnd hb p k ub h s w) := by
  rw [hostC_open ub h hd] at hB
  have hne1 : p ≠ hb := blk_ne hP hB (by decide)
  have hne2 : k ≠ hb := blk_ne hK hB (by decide)
  refine (do_first hb 6 _ _ (ClQ hb p k ub h s (w.setCell ⟨hb, 7, none⟩ (.int .i32 1))) w (Blk.cell hB 6) (Blk.cell hB 7) (Blk.free hB 7) (pfn_enters _) ?_).mono ?_
  · have h1 : Blk (w.setCell ⟨hb, 7, none⟩ (.int .i32 1)) hb 123 (hostX ub h 0 1) := Blk.set hB 7 _
    refine (provedFn hb p k ub h s _ hs hps (Blk.far hP hne1 _) (Blk.far hK hne2 _) h1).mono ?_
    rintro e w2 ⟨rfl, hq⟩
    exact ⟨rfl, Blk.cell hq.1 6, Blk.free hq.1 6, Blk.cell hq.1 7, Blk.free hq.1 7, hq⟩
  · rintro e w' ⟨rfl, w2, hq, rfl⟩
    refine ⟨rfl, ?_, Blk.far (Blk.far (Blk.drew hq.2.1) hne1 _) hne1 _, Blk.far (Blk.far (Blk.drew hq.2.2.1) hne2 _) hne2 _, ?_⟩
    · rw [hostC_done _ _ rfl]
      exact Blk.set (Blk.set (Blk.drew hq.1) 6 _) 7 _
    · exact grown_set_more (grown_set_more (grown_drew (grown_trans (grown_set w ⟨hb, 7, none⟩ _) hq.2.2.2 (fun _ hk => .inl hk))) 6 _) 7 _
end Go.Proofs.YtkcfbipnhnboaaaGreat

namespace Go.Proofs.YtkcfbipnhnboaaaGreat
open Go.RowKit Go.MuLone

theorem usersBlk_ne {w : World} {ub hb : Nat} {L : List URec} {cs : Array Value} (h : UsersAt w ub L) (hB : Blk w hb 123 cs) : ¬ UsersBlk w ub L hb := by
  rintro (rfl | ⟨r, hr, e⟩ | hm)
  · obtain ⟨mb, h1, _⟩ := h.map
    exact blk_ne h1 hB (by decide) rfl
  · exact blk_ne (h.cells r hr) hB (by decide) e
  · obtain ⟨mb, h1, h2⟩ := h.map
    have e := h1.symm.trans hm
    injection e with e
    injection e with e _ _
    have e2 : mb = hb := by
      have := congrArg (fun a : Array Value => a[0]?) e
      simp at this
      exact this
    subst e2
    obtain ⟨D, ⟨es, clock, h5, _⟩, _⟩ := h2
    have e3 := h5.symm.trans hB
    injection e3 with e3
    cases e3
theorem UsersAt.hostSet {w w' : World} {ub hb : Nat} {L : List URec} {cs : Array Value} (h : UsersAt w ub L) (hB : Blk w hb 123 cs) (hg : w.grownBy w' (some hb)) : UsersAt w' ub L :=
  h.chg (S := fun k => k = hb) (Chg.of_grown hg rfl) (fun _ _ hk e => usersBlk_ne h hB (e ▸ hk))
theorem Blk.userSet {w w' : World} {ub hb : Nat} {L : List URec} {r : URec} {t : TypeId} {cs : Array Value} (h : UsersAt w ub L) (hr : r ∈ L) (hB : Blk w hb t cs) (ht : t ≠ 111) (hg : w.grownBy w' (some r.blk)) : Blk w' hb t cs :=
  blk_grown hB hg (fun e => by cases e; exact blk_ne hB (h.cells r hr) ht rfl)

/-- What a host of users may write. -/
def HostS (hb : Nat) (L : List URec) (k : Nat) : Prop := k = hb ∨ ∃ r ∈ L, r.blk = k
/-- How a host stands behind a proof; the users; the answer. -/
def provedR (L : List URec) (h : HSt) (b : ByteArray) (now : Int) : HSt × List URec × ByteArray × Nat :=
  if isFixed 3 32 b = true then
    match recOf L h.user with
    | none => (h, L, ByteArray.empty, 6)
    | some r => if lockedAt L h.user now = true then (h, L, ByteArray.empty, 6)
      else if fixedB 3 32 b = proofB r.secret h.papers then ({ h with done := true, up := upOf r.secret h.papers, down := downOf r.secret h.papers }, updL L h.user goodR, letterB 4 (finishB r.secret h.papers), 0)
      else (h, updL L h.user (failR now), ByteArray.empty, 3)
  else (h, L, ByteArray.empty, 2)
def HostEnd (hb ub : Nat) (L : List URec) (w : World) (R : HSt × List URec × ByteArray × Nat) (e : Ending) (w' : World) : Prop :=
  e = .returned (.tuple #[.string R.2.2.1, .int .i64 (R.2.2.2 : Int)]) ∧ Blk w' hb 123 (hostC ub R.1) ∧ UsersAt w' ub R.2.1 ∧ Chg (HostS hb L) w w'

/-- Secret, whoever is asked for. -/
def secOf (L : List URec) (s : ByteArray) : ByteArray := match recOf L s with | some r => r.secret | none => ByteArray.empty
theorem secret_any (ub : Nat) (L : List URec) (s : ByteArray) (w : World) (h : UsersAt w ub L) (hs : s.size ≤ 1000000000) : Calls Tryz.prog 83 #[.pointer (some ⟨ub, 0, none⟩), .string s] w fun e w' => e = .returned (.tuple #[.string (secOf L s), .bool (recOf L s).isSome]) ∧ w = w' := by
  cases hr : recOf L s with
  | none =>
    refine (secret_none ub L s w h hs hr).mono ?_
    rintro e w' ⟨rfl, rfl⟩
    simp [secOf, hr]
  | some r =>
    refine (secret_some ub L s r w h hs hr).mono ?_
    rintro e w' ⟨rfl, rfl⟩
    simp [secOf, hr]

/-- What stands while proved is at work. -/
structure PrG (p k8 k10 hb ub : Nat) (L : List URec) (h : HSt) (x s : ByteArray) (w W : World) : Prop where
  p0 : Blk W p 56 #[.pointer (some ⟨hb, 0, none⟩)]
  x8 : Blk W k8 100 #[.string x]
  s10 : Blk W k10 9 #[.string s]
  host : Blk W hb 123 (hostC ub h)
  users : UsersAt W ub L
  bel : Below w.heap.size w W
theorem PrG.below {p k8 k10 hb ub : Nat} {L : List URec} {h : HSt} {x s : ByteArray} {w W W' : World} (g : PrG p k8 k10 hb ub L h x s w W) (hb' : Below W.heap.size W W') : PrG p k8 k10 hb ub L h x s w W' :=
  ⟨Blk.below g.p0 hb', Blk.below g.x8 hb', Blk.below g.s10 hb', Blk.below g.host hb', g.users.below hb', g.bel.trans (hb'.mono g.bel.size)⟩
theorem PrG.drew {p k8 k10 hb ub : Nat} {L : List URec} {h : HSt} {x s : ByteArray} {w W : World} (g : PrG p k8 k10 hb ub L h x s w W) : PrG p k8 k10 hb ub L h x s w W.drew := g.below (Below.refl _ _).drew

set_option maxHeartbeats 1600000 in
set_option maxRecDepth 100000 in
theorem proved_any (hb ub : Nat) (L : List URec) (h : HSt) (b : ByteArray) (now : Int) (w : World) (hbs : b.size ≤ 1000000) (hus : h.user.size ≤ 1000000) (hps : h.papers.size ≤ 1000000) (hss : ∀ r ∈ L, r.secret.size ≤ 100000) (hd : h.done = false) (hn : -9223372036854775808 ≤ now) (hn2 : now ≤ 9223372036854775807)
    (hB : Blk w hb 123 (hostC ub h)) (hU : UsersAt w ub L) : Calls Tryz.prog 60 #[.pointer (some ⟨hb, 0, none⟩), .string b, .int .i64 now] w (HostEnd hb ub L w (provedR L h b now)) := by
  have HGP : Box (∀ W : World, Calls Tryz.prog 82 #[.string b] W fun e w' => e = .returned (.tuple #[.agg #[.string (fixedB 3 32 b)], .bool (isFixed 3 32 b)]) ∧ Below W.heap.size W w') := ⟨fun W => getProof_any b W (by omega)⟩
  have HSE : Box (∀ W : World, UsersAt W ub L → Calls Tryz.prog 83 #[.pointer (some ⟨ub, 0, none⟩), .string h.user] W fun e w' => e = .returned (.tuple #[.string (secOf L h.user), .bool (recOf L h.user).isSome]) ∧ W = w') := ⟨fun W hW => secret_any ub L h.user W hW (by omega)⟩
  have hxs : (fixedB 3 32 b).size ≤ 1000000 := by
    rw [fixedB]
    split
    · rw [ByteArray.size_extract]; omega
    · decide
  have hsc : (secOf L h.user).size ≤ 100000 := by
    rw [secOf]
    split
    · rename_i r hr; exact hss r (recOf_mem hr).1
    · decide
  obtain ⟨R, hR⟩ : ∃ R, provedR L h b now = R := ⟨_, rfl⟩
  rw [hR]
  have HE : Box _ := ⟨hR⟩
  unfold provedR at HE
  obtain ⟨x, hx⟩ : ∃ x, fixedB 3 32 b = x := ⟨_, rfl⟩
  obtain ⟨is, his⟩ : ∃ is, isFixed 3 32 b = is := ⟨_, rfl⟩
  obtain ⟨s, hs⟩ : ∃ s, secOf L h.user = s := ⟨_, rfl⟩
  obtain ⟨kn, hkn⟩ : ∃ kn, (recOf L h.user).isSome = kn := ⟨_, rfl⟩
  rw [hx, his] at HGP
  rw [hs, hkn] at HSE
  rw [hx, his] at HE
  rw [hx] at hxs
  rw [hs] at hsc
  have HKN : Box _ := ⟨And.intro hkn hs⟩
  have hB0 : Blk (w.alloc (.cells #[.pointer (some ⟨hb, 0, none⟩)] 56)) hb 123 (hostC ub h) := Blk.alloc hB _
  have hU0 : UsersAt (w.alloc (.cells #[.pointer (some ⟨hb, 0, none⟩)] 56)) ub L := hU.below ((Below.refl _ _).alloc (Nat.le_refl _) _)
  have hb0 : Below w.heap.size w (w.alloc (.cells #[.pointer (some ⟨hb, 0, none⟩)] 56)) := (Below.refl _ _).alloc (Nat.le_refl _) _
  have hP0 : Blk (w.alloc (.cells #[.pointer (some ⟨hb, 0, none⟩)] 56)) w.heap.size 56 #[.pointer (some ⟨hb, 0, none⟩)] := Blk.new w _
  have H0 : Box _ := ⟨And.intro hB0 (And.intro hU0 (And.intro hb0 hP0))⟩
  have HHB : Box _ := ⟨And.intro hB hU⟩
  have HSS : Box _ := ⟨And.intro hss hd⟩
  clear hR hx his hs hkn hB0 hU0 hb0 hP0 hB hU hss hd
  go_enter Tryz.func60, Tryz.ntmps60
  go_wp2_with fail
  refine (HGP.out _).mono ?_
  rintro e w1 ⟨rfl, hb1⟩
  obtain ⟨w2, hw2⟩ : ∃ w2, w1.alloc (.cells #[.string x] 100) = w2 := ⟨_, rfl⟩
  have hbb : Below w.heap.size w w1 := H0.out.2.2.1.trans (hb1.mono H0.out.2.2.1.size)
  have hg2 : Blk w2 w.heap.size 56 #[.pointer (some ⟨hb, 0, none⟩)] ∧ Blk w2 w1.heap.size 100 #[.string x] ∧ Blk w2 hb 123 (hostC ub h) ∧ UsersAt w2 ub L ∧ Below w.heap.size w w2 := by
    rw [← hw2]
    exact ⟨Blk.alloc (Blk.below H0.out.2.2.2 hb1) _, Blk.new w1 _, Blk.alloc (Blk.below H0.out.1 hb1) _, (H0.out.2.1.below hb1).below ((Below.refl _ _).alloc (Nat.le_refl _) _), hbb.alloc hbb.size _⟩
  have H2 : Box _ := ⟨hg2⟩
  have cp : w2.cell? ⟨w.heap.size, 0, none⟩ = some (.pointer (some ⟨hb, 0, none⟩)) := Blk.cell hg2.1 0
  have ch0 : w2.cell? ⟨hb, 0, none⟩ = some (.pointer (some ⟨ub, 0, none⟩)) := Blk.cell hg2.2.2.1 0
  have ch4 : w2.cell? ⟨hb, 4, none⟩ = some (.string h.user) := Blk.cell hg2.2.2.1 4
  clear hb1 hbb hg2
  go_upto_region 2 with fail
  try rw [hw2]
  clear hw2
  go_cut [10, 11] (fun q v W => ∃ k10 : Nat, q = .pointer (some ⟨k10, 0, none⟩) ∧ v = .bool kn ∧ Box (PrG w.heap.size w1.heap.size k10 hb ub L h x s w W))
  case first =>
    go_region_held3 (fun W => W.cell? ⟨w.heap.size, 0, none⟩ = some (.pointer (some ⟨hb, 0, none⟩)) ∧ W.cell? ⟨hb, 0, none⟩ = some (.pointer (some ⟨ub, 0, none⟩)) ∧ W.cell? ⟨hb, 4, none⟩ = some (.string h.user)) (go_keep)
      ((go_at_call 83; refine (HSE.out _ (by first | exact H2.out.2.2.2.1.below (Below.refl _ _).drew | exact H2.out.2.2.2.1.below ((Below.refl _ _).drew.alloc (Nat.le_refl _) _))).mono ?_; rintro e w6 ⟨rfl, rfl⟩))
    all_goals
      go_wp2_with fail
      go_meet
      have hbl : Below w2.heap.size w2 (w2.drew.alloc (.cells #[.string s] 9)) := (Below.refl _ _).drew.alloc (Nat.le_refl _) _
      exact ⟨_, rfl, rfl, ⟨⟨Blk.below H2.out.1 hbl, Blk.below H2.out.2.1 hbl, Blk.new_at _ rfl, Blk.below H2.out.2.2.1 hbl, H2.out.2.2.2.1.below hbl, H2.out.2.2.2.2.trans (hbl.mono H2.out.2.2.2.2.size)⟩⟩⟩
  case rest =>
    obtain ⟨k10, rfl, rfl, HG⟩ := hcut
    clear cp ch0 ch4
    -- a refusal that leaves everything alone
    have HX : Box (∀ (W : World) (c : Nat), PrG w.heap.size w1.heap.size k10 hb ub L h x s w W → R = (h, L, ByteArray.empty, c) → HostEnd hb ub L w R (.returned (.tuple #[.string ByteArray.empty, .int .i64 (c : Int)])) W) := ⟨fun W c hW hR => by rw [hR]; exact ⟨rfl, hW.host, hW.users, Chg.of_below hW.bel⟩⟩
    cases is with
    | false =>
      have hR : R = (h, L, ByteArray.empty, 2) := HE.out.symm
      have HR : Box _ := ⟨hR⟩
      clear hR
      go_wp2
      go_ret2
      exact HX.out _ 2 HG.out HR.out
    | true =>
      obtain ⟨ro, hro⟩ : ∃ ro, recOf L h.user = ro := ⟨_, rfl⟩
      rw [hro] at HE HKN
      have HRO : Box _ := ⟨hro⟩
      have HLK : Box (∀ W : World, UsersAt W ub L → Calls Tryz.prog 42 #[.pointer (some ⟨ub, 0, none⟩), .string h.user, .int .i64 now] W fun e w' => e = .returned (.bool (lockedAt L h.user now)) ∧ W = w') := ⟨fun W hW => locked_any ub L h.user now W hW (by omega)⟩
      clear hro
      cases ro with
      | none =>
        have hk : false = kn := HKN.out.1
        subst hk
        have hR : R = (h, L, ByteArray.empty, 6) := HE.out.symm
        have HR : Box _ := ⟨hR⟩
        clear hR
        go_upto_region 5 with fail
        go_cut [34] (fun v W => v = .bool true ∧ Box (PrG w.heap.size w1.heap.size k10 hb ub L h x s w W))
        case first =>
          go_quiet (fail)
          go_wp2_with fail
          go_meet
          exact ⟨rfl, ⟨HG.out.below (below_drewN (Below.refl _ _) _)⟩⟩
        case rest =>
          obtain ⟨rfl, HG2⟩ := hcut
          go_wp2
          go_ret2
          exact HX.out _ 6 HG2.out HR.out
      | some r =>
        have hk : true = kn := HKN.out.1
        subst hk
        have hsr : s = r.secret := by rw [← HKN.out.2, secOf, HRO.out]
        obtain ⟨lk, hlk⟩ : ∃ lk, lockedAt L h.user now = lk := ⟨_, rfl⟩
        rw [hlk] at HE HLK
        have HSR : Box _ := ⟨hsr⟩
        clear hlk hsr
        have cp : wc.cell? ⟨w.heap.size, 0, none⟩ = some (.pointer (some ⟨hb, 0, none⟩)) := Blk.cell HG.out.p0 0
        have ch0 : wc.cell? ⟨hb, 0, none⟩ = some (.pointer (some ⟨ub, 0, none⟩)) := Blk.cell HG.out.host 0
        have ch4 : wc.cell? ⟨hb, 4, none⟩ = some (.string h.user) := Blk.cell HG.out.host 4
        go_upto_region 5 with fail
        go_cut [34] (fun v W => v = .bool lk ∧ Box (PrG w.heap.size w1.heap.size k10 hb ub L h x s w W))
        case first =>
          go_quiet ((go_at_call 42; exact Calls.quiet_of_same (still_of (HLK.out _ (HG.out.users.below (below_drewN (Below.refl _ _) _))))))
          go_wp2_with fail
          go_meet
          exact ⟨rfl, ⟨HG.out.below (below_drewN (Below.refl _ _) _)⟩⟩
        case rest =>
          obtain ⟨rfl, HG2⟩ := hcut
          clear cp ch0 ch4
          cases lk with
          | true =>
            have hR : R = (h, L, ByteArray.empty, 6) := HE.out.symm
            have HR : Box _ := ⟨hR⟩
            clear hR
            go_wp2
            go_ret2
            exact HX.out _ 6 HG2.out HR.out
          | false =>
            have hfs := proofB_size r.secret h.papers
            have HPR : Box (∀ W : World, Calls Tryz.prog 49 #[.string s, .string h.papers] W fun e w' => e = .returned (.string (proofB r.secret h.papers)) ∧ Below W.heap.size W w') := ⟨fun W => by rw [HSR.out]; exact proof_any r.secret h.papers W (by rw [← HSR.out]; omega) (by omega)⟩
            have HSA : Box (∀ W : World, Calls Tryz.prog 53 #[.string x, .string (proofB r.secret h.papers)] W fun e w' => e = .returned (.bool (decide (x = proofB r.secret h.papers))) ∧ Below W.heap.size W w') := ⟨fun W => same_any x (proofB r.secret h.papers) W (by omega) (by omega)⟩
            obtain ⟨m, hm⟩ : ∃ m, proofB r.secret h.papers = m := ⟨_, rfl⟩
            have HE2 : Box ((if x = proofB r.secret h.papers then ({ h with done := true, up := upOf r.secret h.papers, down := downOf r.secret h.papers }, updL L h.user goodR, letterB 4 (finishB r.secret h.papers), 0) else (h, updL L h.user (failR now), ByteArray.empty, 3)) = R) := ⟨HE.out⟩
            rw [hm] at HPR HSA HE2
            obtain ⟨d, hd⟩ : ∃ d, decide (x = m) = d := ⟨_, rfl⟩
            rw [hd] at HSA
            have HD : Box _ := ⟨hd⟩
            have cp : wc.cell? ⟨w.heap.size, 0, none⟩ = some (.pointer (some ⟨hb, 0, none⟩)) := Blk.cell HG2.out.p0 0
            have c5 : wc.cell? ⟨hb, 5, none⟩ = some (.string h.papers) := Blk.cell HG2.out.host 5
            have cx : wc.cell? ⟨w1.heap.size, 0, none⟩ = some (.string x) := Blk.cell HG2.out.x8 0
            have cs : wc.cell? ⟨k10, 0, none⟩ = some (.string s) := Blk.cell HG2.out.s10 0
            clear hfs hm hd
            go_upto_region 7 with fail
            go_cut [49] (fun v W => v = .bool (!d) ∧ Box (PrG w.heap.size w1.heap.size k10 hb ub L h x s w W))
            case first =>
              go_region_held3 (fun W => W.cell? ⟨w.heap.size, 0, none⟩ = some (.pointer (some ⟨hb, 0, none⟩)) ∧ W.cell? ⟨hb, 5, none⟩ = some (.string h.papers) ∧ W.cell? ⟨w1.heap.size, 0, none⟩ = some (.string x) ∧ W.cell? ⟨k10, 0, none⟩ = some (.string s)) (first | exact ⟨Blk.cell HG7.out.p0 0, Blk.cell HG7.out.host 5, Blk.cell HG7.out.x8 0, Blk.cell HG7.out.s10 0⟩ | exact ⟨Blk.cell HG6.out.p0 0, Blk.cell HG6.out.host 5, Blk.cell HG6.out.x8 0, Blk.cell HG6.out.s10 0⟩ | go_keep)
                ((first | (go_at_call 49; refine (HPR.out _).mono ?_; rintro e w6 ⟨rfl, hb6⟩; have HG6 := Box.mk (HG2.out.drew.below hb6); clear hb6) | (go_at_call 53; refine (HSA.out _).mono ?_; rintro e w7 ⟨rfl, hb7⟩; have HG7 := Box.mk (HG6.out.below hb7); clear hb7)))
              all_goals
                go_wp2_with fail
                go_meet
                exact ⟨rfl, HG7⟩
            case rest =>
              obtain ⟨rfl, HG3⟩ := hcut
              clear cp c5 cx cs
              cases d with
              | false =>
                have hne : ¬ x = m := of_decide_eq_false HD.out
                have hR : R = (h, updL L h.user (failR now), ByteArray.empty, 3) := by have e := HE2.out; rw [if_neg hne] at e; exact e.symm
                have HFA : Box (∀ W : World, UsersAt W ub L → Calls Tryz.prog 34 #[.pointer (some ⟨ub, 0, none⟩), .string h.user, .int .i64 now] W fun e w' => (∃ q, e = .returned (.bool q)) ∧ UsersAt w' ub (updL L h.user (failR now)) ∧ W.grownBy w' (some r.blk)) := ⟨fun W hW => (fail_some ub L h.user r now W hn hn2 hW (by omega) HRO.out).mono (fun _ _ hh => ⟨⟨_, hh.1⟩, hh.2⟩)⟩
                have HR : Box _ := ⟨hR⟩
                have cp : wc.cell? ⟨w.heap.size, 0, none⟩ = some (.pointer (some ⟨hb, 0, none⟩)) := Blk.cell HG3.out.p0 0
                have ch0 : wc.cell? ⟨hb, 0, none⟩ = some (.pointer (some ⟨ub, 0, none⟩)) := Blk.cell HG3.out.host 0
                have ch4 : wc.cell? ⟨hb, 4, none⟩ = some (.string h.user) := Blk.cell HG3.out.host 4
                have hrm := (recOf_mem HRO.out).1
                clear hne hR
                go_upto_region 8 with fail
                go_cut [] (fun W => Box (Blk W hb 123 (hostC ub h) ∧ UsersAt W ub (updL L h.user (failR now)) ∧ wc.grownBy W (some r.blk)))
                case first =>
                  go_region_held3 (fun W => W.cell? ⟨w.heap.size, 0, none⟩ = some (.pointer (some ⟨hb, 0, none⟩)) ∧ W.cell? ⟨hb, 0, none⟩ = some (.pointer (some ⟨ub, 0, none⟩)) ∧ W.cell? ⟨hb, 4, none⟩ = some (.string h.user)) (first | exact ⟨dp, dh0, dh4⟩ | go_keep)
                    ((go_at_call 34; refine (HFA.out _ HG3.out.drew.users).mono ?_; rintro e w6 ⟨⟨q, rfl⟩, hu6, hg6⟩; have hB6 := Blk.userSet HG3.out.drew.users hrm HG3.out.drew.host (by decide) hg6; have hP6 := Blk.userSet HG3.out.drew.users hrm HG3.out.drew.p0 (by decide) hg6; have dp : w6.cell? ⟨w.heap.size, 0, none⟩ = some (.pointer (some ⟨hb, 0, none⟩)) := Blk.cell hP6 0; have dh0 : w6.cell? ⟨hb, 0, none⟩ = some (.pointer (some ⟨ub, 0, none⟩)) := Blk.cell hB6 0; have dh4 : w6.cell? ⟨hb, 4, none⟩ = some (.string h.user) := Blk.cell hB6 4; have H6 := Box.mk (And.intro hB6 (And.intro hu6 (grown_trans (grown_drew (grown_below (Below.refl _ wc) (some r.blk))) hg6 (fun _ hk => .inl hk)))); clear hB6 hu6 hg6 hP6))
                  all_goals
                    go_wp2_with fail
                    go_meet
                    exact H6
                case rest =>
                  have HC := hcut
                  clear cp ch0 ch4
                  go_wp2
                  go_ret2
                  rw [HR.out]
                  exact ⟨rfl, HC.out.1, HC.out.2.1, (Chg.of_below HG3.out.bel).trans (Chg.of_grown HC.out.2.2 (.inr ⟨r, hrm, rfl⟩))⟩
              | true =>
                have heq : x = m := of_decide_eq_true HD.out
                have hR : R = ({ h with done := true, up := upOf r.secret h.papers, down := downOf r.secret h.papers }, updL L h.user goodR, letterB 4 (finishB r.secret h.papers), 0) := by have e := HE2.out; rw [if_pos heq] at e; exact e.symm
                have HR : Box _ := ⟨hR⟩
                clear heq hR
                have HGO : Box (∀ W : World, UsersAt W ub L → Calls Tryz.prog 84 #[.pointer (some ⟨ub, 0, none⟩), .string h.user] W fun e w' => e = .returned (.tuple #[]) ∧ UsersAt w' ub (updL L h.user goodR) ∧ W.grownBy w' (some r.blk)) := ⟨fun W hW => good_some ub L h.user r W hW (by omega) HRO.out⟩
                have cp : wc.cell? ⟨w.heap.size, 0, none⟩ = some (.pointer (some ⟨hb, 0, none⟩)) := Blk.cell HG3.out.p0 0
                have ch0 : wc.cell? ⟨hb, 0, none⟩ = some (.pointer (some ⟨ub, 0, none⟩)) := Blk.cell HG3.out.host 0
                have ch4 : wc.cell? ⟨hb, 4, none⟩ = some (.string h.user) := Blk.cell HG3.out.host 4
                have hrm := (recOf_mem HRO.out).1
                go_upto_region 10 with fail
                go_cut [] (fun W => Box (Blk W hb 123 (hostC ub h) ∧ UsersAt W ub (updL L h.user goodR) ∧ wc.grownBy W (some r.blk) ∧ Blk W w.heap.size 56 #[.pointer (some ⟨hb, 0, none⟩)] ∧ Blk W k10 9 #[.string s]))
                case first =>
                  go_region_held3 (fun W => W.cell? ⟨w.heap.size, 0, none⟩ = some (.pointer (some ⟨hb, 0, none⟩)) ∧ W.cell? ⟨hb, 0, none⟩ = some (.pointer (some ⟨ub, 0, none⟩)) ∧ W.cell? ⟨hb, 4, none⟩ = some (.string h.user)) (first | exact ⟨dp, dh0, dh4⟩ | go_keep)
                    ((go_at_call 84; refine (HGO.out _ HG3.out.drew.users).mono ?_; rintro e w6 ⟨rfl, hu6, hg6⟩; have hB6 := Blk.userSet HG3.out.drew.users hrm HG3.out.drew.host (by decide) hg6; have hP6 := Blk.userSet HG3.out.drew.users hrm HG3.out.drew.p0 (by decide) hg6; have hS6 := Blk.userSet HG3.out.drew.users hrm HG3.out.drew.s10 (by decide) hg6; have dp : w6.cell? ⟨w.heap.size, 0, none⟩ = some (.pointer (some ⟨hb, 0, none⟩)) := Blk.cell hP6 0; have dh0 : w6.cell? ⟨hb, 0, none⟩ = some (.pointer (some ⟨ub, 0, none⟩)) := Blk.cell hB6 0; have dh4 : w6.cell? ⟨hb, 4, none⟩ = some (.string h.user) := Blk.cell hB6 4; have H6 := Box.mk (And.intro hB6 (And.intro hu6 (And.intro (grown_trans (grown_drew (grown_below (Below.refl _ wc) (some r.blk))) hg6 (fun _ hk => .inl hk)) (And.intro hP6 hS6)))); clear hB6 hu6 hg6 hP6 hS6))
                  all_goals
                    go_wp2_with fail
                    go_meet
                    exact H6
                case rest =>
                  have HC := hcut
                  have HBEL : Box _ := ⟨And.intro HG3.out.bel (Chg.of_grown (S := HostS hb L) hcut.out.2.2.1 (.inr ⟨r, hrm, rfl⟩))⟩
                  have HCH : Box _ := ⟨(Chg.of_below (S := HostS hb L) HBEL.out.1).trans HBEL.out.2⟩
                  clear cp ch0 ch4 hcut HBEL
                  have cp : wc.cell? ⟨w.heap.size, 0, none⟩ = some (.pointer (some ⟨hb, 0, none⟩)) := Blk.cell HC.out.2.2.2.1 0
                  have hmf : ∀ (fn : Fn) (first cap : Array Value) (w : World), (Instr.makeFunc fn first cap).run Tryz.prog w = .ok (.func fn first cap) w := fun _ _ _ _ => rfl
                  go_wp2_with fail
                  refine (hostDo hb w.heap.size k10 ub h s _ HSS.out.2 (by omega) (by omega) HC.out.2.2.2.1 HC.out.2.2.2.2 HC.out.1).mono ?_
                  rintro e w5 ⟨rfl, hB5, hP5, hS5, hg5⟩
                  have hU5 := HC.out.2.1.hostSet HC.out.1 hg5
                  have hC5 := HCH.out.trans (Chg.of_grown (S := HostS hb L) hg5 (.inl rfl))
                  have H5 : Box _ := ⟨And.intro hB5 (And.intro hU5 (And.intro hC5 (And.intro hP5 hS5)))⟩
                  have HFI : Box (∀ W : World, Calls Tryz.prog 54 #[.string s, .string h.papers] W fun e w' => e = .returned (.string (finishB r.secret h.papers)) ∧ Below W.heap.size W w') := ⟨fun W => by rw [HSR.out]; exact finish_any r.secret h.papers W (by rw [← HSR.out]; omega) (by omega)⟩
                  have hfz := finishB_size r.secret h.papers
                  have HPF : Box (∀ W : World, Calls Tryz.prog 87 #[.agg #[.string (finishB r.secret h.papers)]] W fun e w' => e = .returned (.tuple #[.string (letterB 4 (finishB r.secret h.papers)), .bool true]) ∧ Below W.heap.size W w') := ⟨fun W => putFinish_any _ W hfz⟩
                  obtain ⟨fm, hfm⟩ : ∃ fm, finishB r.secret h.papers = fm := ⟨_, rfl⟩
                  rw [hfm] at HFI HPF
                  have HFM : Box _ := ⟨hfm⟩
                  have dp : w5.cell? ⟨w.heap.size, 0, none⟩ = some (.pointer (some ⟨hb, 0, none⟩)) := Blk.cell hP5 0
                  have d5 : w5.cell? ⟨hb, 5, none⟩ = some (.string h.papers) := Blk.cell hB5 5
                  have ds : w5.cell? ⟨k10, 0, none⟩ = some (.string s) := Blk.cell hS5 0
                  clear hB5 hP5 hS5 hg5 hU5 hC5 hfz hfm cp hmf
                  go_upto_region 12 with fail
                  go_cut [12] (fun v W => v = .string (letterB 4 fm) ∧ Box (Below w5.heap.size w5 W))
                  case first =>
                    go_region_held3 (fun W => W.cell? ⟨w.heap.size, 0, none⟩ = some (.pointer (some ⟨hb, 0, none⟩)) ∧ W.cell? ⟨hb, 5, none⟩ = some (.string h.papers) ∧ W.cell? ⟨k10, 0, none⟩ = some (.string s)) (first | exact ⟨Blk.cell (Blk.below H5.out.2.2.2.1 HB7.out) 0, Blk.cell (Blk.below H5.out.1 HB7.out) 5, Blk.cell (Blk.below H5.out.2.2.2.2 HB7.out) 0⟩ | exact ⟨Blk.cell (Blk.below H5.out.2.2.2.1 HB6.out) 0, Blk.cell (Blk.below H5.out.1 HB6.out) 5, Blk.cell (Blk.below H5.out.2.2.2.2 HB6.out) 0⟩ | go_keep)
                      ((first | (go_at_call 54; refine (HFI.out _).mono ?_; rintro e w6 ⟨rfl, hb6⟩; have HB6 := Box.mk ((Below.refl w5.heap.size w5).drew.trans hb6); clear hb6) | (go_at_call 87; refine (HPF.out _).mono ?_; rintro e w7 ⟨rfl, hb7⟩; have HB7 := Box.mk (HB6.out.trans (hb7.mono HB6.out.size)); clear hb7)))
                    all_goals
                      go_wp2_with fail
                      go_meet
                      exact ⟨rfl, HB7⟩
                  case rest =>
                    obtain ⟨rfl, HW⟩ := hcut
                    clear dp d5 ds
                    go_wp2
                    go_ret2
                    rw [HR.out, HFM.out]
                    refine ⟨rfl, ?_, H5.out.2.1.below HW.out, H5.out.2.2.1.trans (Chg.of_below HW.out)⟩
                    rw [← HSR.out]
                    exact Blk.below H5.out.1 HW.out
end Go.Proofs.YtkcfbipnhnboaaaGreat
