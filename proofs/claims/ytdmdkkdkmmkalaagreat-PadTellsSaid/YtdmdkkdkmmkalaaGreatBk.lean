/- Lists that are kept: rows that lie apart (for the book of the statements); no function of the program is spoken of here. -/
import Derived.Test.YtdmdkkdkmmkalaaGreatKeep
import Derived.Lib.OwnKind
namespace Go.Proofs.YtdmdkkdkmmkalaaGreat
open Go.RowKit

section
variable {P : Program} {w : World}
/-- append that keeps, in a list of operations. -/
theorem list_append_keep {ops : Array Oper} {rest : List Oper} {o : Oper} {a : Act} {Q : Exit → Act → World → Prop} (hgd : o.guard = none) (s x : Operand) (t : TypeId)
    (ho : o.op = .call { callee := .builtin .append, args := #[s, x], argTypes := #[t, t] })
    (base : Nat) (e : TypeId) (z : Value) (bytes : Nat) (ht : P.underlying t = some (.slice e)) (hinfo : (P.info? e).map (fun i => (i.zero, i.size, i.bytes)) = some (some z, 1, bytes))
    (hzs : z.cells.size = 1)
    (v : Value) (n : Nat) (xs : List Value) (hs : a.eval s = v) (hown : w.ownsRow base e 1 v n xs)
    (ad : Addr) (m c : Nat) (news : List Value) (hx : a.eval x = .slice (some ad) m c) (hl : news.length = m) (hnews : ∀ j u, news[j]? = some u → w.cell? (ad.add j) = some u) (h1 : ∀ u ∈ news, u.oneCell' = true)
    (h63 : n + m ≤ 1099511627776) (hbytes : bytes ≤ 128) (hbase : base ≤ w.heap.size)
    (h : ∀ v' w', w'.ownsRow base e 1 v' (n + m) (xs ++ news) → w'.ownsRow base e 1 v n xs → w.grownBy w' v.ownBlock → (v'.ownBlock = v.ownBlock ∨ (v'.ownBlock = some w.heap.size ∧ w.grownBy w' none)) → wpList P ops Q rest (a.put o.dst v') w') : wpList P ops Q (o :: rest) a w := by
  obtain ⟨v', w', hr, h2, h3, h4, h5⟩ := run_append_keep (P := P) w base t o.type e z bytes ht hinfo hzs v n xs hown ad m c news hl hnews h1 h63 hbytes hbase
  refine wpList_plain hgd fun _ hK => ?_
  unfold Oper.wp execOp
  simp only [ho, resolve, invoke, builtin, Sem.run_bind, Sem.run_pure, Result.andThen_ok, List.map_toArray, List.map_cons, List.map_nil, hs, hx, hr]
  exact hK _ _ (h v' w' h2 h3 h4 h5)
/-- append of nothing (a nil slice), in a list of operations. -/
theorem list_append_none {ops : Array Oper} {rest : List Oper} {o : Oper} {a : Act} {Q : Exit → Act → World → Prop} (hgd : o.guard = none) (s x : Operand) (t : TypeId)
    (ho : o.op = .call { callee := .builtin .append, args := #[s, x], argTypes := #[t, t] })
    (base : Nat) (e : TypeId) (z : Value) (size bytes : Nat) (ht : P.underlying t = some (.slice e)) (hinfo : (P.info? e).map (fun i => (i.zero, i.size, i.bytes)) = some (some z, size, bytes))
    (v : Value) (n : Nat) (xs : List Value) (hs : a.eval s = v) (hown : w.ownsRow base e size v n xs)
    (hx : a.eval x = .slice none 0 0)
    (h : wpList P ops Q rest (a.put o.dst v) w) : wpList P ops Q (o :: rest) a w := by
  obtain ⟨i, hi, hz, hz1, hz2⟩ := info_parts hinfo
  have hr := run_append_owned_none (P := P) w base t o.type e i size ht hi v n xs hown
  refine wpList_plain hgd fun _ hK => ?_
  unfold Oper.wp execOp
  simp only [ho, resolve, invoke, builtin, Sem.run_bind, Sem.run_pure, Result.andThen_ok, List.map_toArray, List.map_cons, List.map_nil, hs, hx, hr]
  exact hK _ _ h
end

theorem news_one (W : World) (u : Value) (t : TypeId) : ∀ (j : Nat) (x : Value), [u][j]? = some x → (W.alloc (.cells #[u] t)).cell? ((⟨W.heap.size, 0, none⟩ : Addr).add j) = some x := by
  intro j x hj
  match j, hj with
  | 0, hj => simp at hj; subst hj; simp [Addr.add]
theorem news_one_cell (u : Value) (h : u.oneCell' = true) : ∀ x ∈ [u], x.oneCell' = true := by intro x hx; simp at hx; subst hx; exact h
theorem encs_cell {α : Type} (enc : α → Value) (h : ∀ a, (enc a).oneCell' = true) (l : List α) : ∀ x ∈ l.map enc, x.oneCell' = true := by
  intro x hx; obtain ⟨a, _, rfl⟩ := List.mem_map.1 hx; exact h a
theorem own_news {w : World} {B : Nat} {e : TypeId} {n : Nat} {v : Value} {xs : List Value} (h : w.ownsRow B e 1 v n xs) {g : Nat} (hg : v.ownBlock = some g) : ∀ (j : Nat) (x : Value), xs[j]? = some x → w.cell? ((⟨g, 0, none⟩ : Addr).add j) = some x := World.ownsRow.cells h hg

theorem own_forms {w : World} {B : Nat} {e : TypeId} {n : Nat} {v : Value} {xs : List Value} (h : w.ownsRow B e 1 v n xs) : (v = .slice none 0 0 ∧ n = 0) ∨ ∃ g c, v = .slice (some ⟨g, 0, none⟩) n c := by
  rcases h.2 with h0 | ⟨g, cap, cur, rfl, _⟩
  · exact .inl h0
  · exact .inr ⟨g, cap, rfl⟩

theorem own_prefix {w w2 : World} {B : Nat} {e : TypeId} {v v1 : Value} {n m : Nat} {xs ys : List Value} (h : w.ownsRow B e 1 v n xs) (h1 : w.ownsRow B e 1 v1 m (xs ++ ys)) (he : v1.ownBlock = v.ownBlock) (h2 : w2.ownsRow B e 1 v1 m (xs ++ ys)) : w2.ownsRow B e 1 v n xs := by
  refine ⟨h.1, ?_⟩
  rcases h.2 with hn | ⟨g, cap, cur, rfl, hb, hg, hnc, hcm, hcs, ht⟩
  · exact .inl hn
  · rcases h1.2 with ⟨rfl, _⟩ | ⟨g1, cap1, cur1, rfl, hb1, hg1, hnc1, hcm1, hcs1, ht1⟩
    · simp [Value.ownBlock] at he
    · simp only [Value.ownBlock, Option.some.injEq] at he
      subst he
      rw [hg] at hg1
      simp only [Option.some.injEq, Obj.cells.injEq, and_true] at hg1
      subst hg1
      have hc : cap1 = cap := by omega
      subst hc
      rcases h2.2 with ⟨hbad, _⟩ | ⟨g2, cap2, cur2, hv2, hb2, hg2, hnc2, hcm2, hcs2, ht2⟩
      · simp at hbad
      · simp only [Value.slice.injEq, Option.some.injEq, Addr.mk.injEq, and_true, true_and] at hv2
        obtain ⟨rfl, rfl⟩ := hv2
        refine .inr ⟨g1, cap1, cur2, rfl, hb, hg2, hnc, hcm, hcs2, ?_⟩
        have hl := h.1
        have hl1 := h1.1
        rw [List.length_append] at hl1
        have : (cur2.toList.take (m * 1)).take (n * 1) = xs := by rw [ht2, ← hl]; exact List.take_left
        rwa [List.take_take, Nat.min_eq_left (by omega)] at this

theorem grown_trans {w w1 w2 : World} {r r2 : Option Nat} (h : w.grownBy w1 r) (h2 : w1.grownBy w2 r2) (hr : ∀ k, r2 = some k → r = some k ∨ w.heap.size ≤ k) : w.grownBy w2 r :=
  ⟨h2.os.trans h.os, h2.tape.trans h.tape, h2.output.trans h.output, Nat.le_trans h.size h2.size, fun k hk hne => (h2.block k (Nat.lt_of_lt_of_le hk h.size) (fun e => by rcases hr k e.symm with e1 | e1; exact hne e1.symm; omega)).trans (h.block k hk hne)⟩
theorem grown_refl (w : World) (r : Option Nat) : w.grownBy w r := ⟨rfl, rfl, rfl, Nat.le_refl _, fun _ _ _ => rfl⟩
theorem grown_below {w w1 : World} (h : Below w.heap.size w w1) (r : Option Nat) : w.grownBy w1 r := ⟨h.os, h.tape, h.output, h.size, fun k hk _ => h.block k hk⟩
theorem grown_set (w : World) (p : Addr) (u : Value) : w.grownBy (w.setCell p u) (some p.block) := ⟨rfl, rfl, rfl, by simp, fun k _ hk => heap_setCell_other w p k u (fun e => hk (by simp [e]))⟩
theorem below_of_grown {B : Nat} {w w1 : World} {r : Option Nat} (h : w.grownBy w1 r) (hB : B ≤ w.heap.size) (hr : ∀ k, r = some k → B ≤ k) : Below B w w1 := (Below.refl B w).grown h hB hr

/-- v has grown to v1 while the world went from w0 to w; v reads as it did. -/
structure Grew (w0 w : World) (B : Nat) (e : TypeId) (v : Value) (n : Nat) (xs : List Value) (v1 : Value) (ys : List Value) : Prop where
  old : w.ownsRow B e 1 v n xs
  new : w.ownsRow B e 1 v1 (n + ys.length) (xs ++ ys)
  grown : w0.grownBy w v.ownBlock
  at_ : v1.ownBlock = v.ownBlock ∨ ∃ g, v1.ownBlock = some g ∧ w0.heap.size ≤ g
theorem Grew.start {w : World} {B : Nat} {e : TypeId} {v : Value} {n : Nat} {xs : List Value} (h : w.ownsRow B e 1 v n xs) : Grew w w B e v n xs v [] := ⟨h, by simpa using h, grown_refl _ _, .inl rfl⟩
theorem Grew.below {w0 w w1 : World} {B : Nat} {e : TypeId} {v v1 : Value} {n : Nat} {xs ys : List Value} (h : Grew w0 w B e v n xs v1 ys) (hb : Below w.heap.size w w1) : Grew w0 w1 B e v n xs v1 ys :=
  ⟨own_below h.old hb, own_below h.new hb, grown_trans h.grown (grown_below hb none) (by simp), h.at_⟩
theorem Grew.app {w0 w w1 : World} {B : Nat} {e : TypeId} {v v1 v2 : Value} {n m : Nat} {xs ys news : List Value} (h : Grew w0 w B e v n xs v1 ys) (hn : news.length = m)
    (h1 : w1.ownsRow B e 1 v2 (n + ys.length + m) (xs ++ ys ++ news)) (h2 : w1.ownsRow B e 1 v1 (n + ys.length) (xs ++ ys)) (h3 : w.grownBy w1 v1.ownBlock)
    (h4 : v2.ownBlock = v1.ownBlock ∨ (v2.ownBlock = some w.heap.size ∧ w.grownBy w1 none)) : Grew w0 w1 B e v n xs v2 (ys ++ news) := by
  have hlt := own_lt h.old
  have hsz := h.grown.size
  refine ⟨?_, by rw [List.length_append, hn, ← Nat.add_assoc, ← List.append_assoc]; exact h1, grown_trans h.grown h3 ?_, ?_⟩
  · by_cases he : v1.ownBlock = v.ownBlock
    · exact own_prefix h.old h.new he h2
    · exact World.ownsRow.kept h.old h3 (.inr (fun e => he e.symm))
  · intro k hk
    rcases h.at_ with e | ⟨g, hg, hge⟩
    · exact .inl (e ▸ hk)
    · rw [hg] at hk; cases hk; exact .inr hge
  · rcases h4 with e | ⟨e, _⟩
    · rw [e]; exact h.at_
    · exact .inr ⟨_, e, hsz⟩

section
variable {α : Type} {w w1 : World} {B : Nat} {e : TypeId} {enc : α → Value} {vs : List Value} {xss : List (List α)}
/-- The rows vs hold xss, each in a block of its own. -/
structure Kept (w : World) (B : Nat) (e : TypeId) (enc : α → Value) (vs : List Value) (xss : List (List α)) : Prop where
  len : vs.length = xss.length
  own : ∀ (i : Nat) (v : Value) (xs : List α), vs[i]? = some v → xss[i]? = some xs → w.ownsRow B e 1 v xs.length (xs.map enc)
  apart : ∀ (i j : Nat) (v u : Value), vs[i]? = some v → vs[j]? = some u → i ≠ j → ∀ g, v.ownBlock = some g → u.ownBlock ≠ some g
theorem Kept.nil (w : World) (B : Nat) (e : TypeId) (enc : α → Value) : Kept w B e enc [] [] := ⟨rfl, by simp, by simp⟩
theorem Kept.get (h : Kept w B e enc vs xss) (i : Nat) (hi : i < vs.length) : ∃ v xs, vs[i]? = some v ∧ xss[i]? = some xs ∧ w.ownsRow B e 1 v xs.length (xs.map enc) := by
  have hi2 : i < xss.length := h.len ▸ hi
  exact ⟨vs[i], xss[i], List.getElem?_eq_getElem hi, List.getElem?_eq_getElem hi2, h.own i _ _ (List.getElem?_eq_getElem hi) (List.getElem?_eq_getElem hi2)⟩
theorem Kept.lt (h : Kept w B e enc vs xss) : ∀ v ∈ vs, ∀ g, v.ownBlock = some g → B ≤ g ∧ g < w.heap.size := by
  intro v hv g hg
  obtain ⟨i, hi, rfl⟩ := List.getElem_of_mem hv
  obtain ⟨v, xs, hv, hx, ho⟩ := h.get i hi
  rw [List.getElem?_eq_getElem hi] at hv
  cases hv
  exact ⟨own_base ho g hg, own_lt ho g hg⟩
theorem Kept.kind (h : Kept w B e enc vs xss) : ∀ v ∈ vs, ∀ g, v.ownBlock = some g → ∃ c fz, w.heap[g]? = some (.cells c e fz) := by
  intro v hv g hg
  obtain ⟨i, hi, rfl⟩ := List.getElem_of_mem hv
  obtain ⟨v, xs, hv, hx, ho⟩ := h.get i hi
  rw [List.getElem?_eq_getElem hi] at hv
  cases hv
  exact Lib.ownsRow_kind ho g hg
theorem Kept.grown {row : Option Nat} (h : Kept w B e enc vs xss) (hg : w.grownBy w1 row) (hne : ∀ v ∈ vs, ∀ g, v.ownBlock = some g → row ≠ some g) : Kept w1 B e enc vs xss := by
  refine ⟨h.len, fun i v xs hv hx => World.ownsRow.kept (h.own i v xs hv hx) hg ?_, h.apart⟩
  cases hb : v.ownBlock with
  | none => exact .inl rfl
  | some g => exact .inr (fun e => hne v (List.mem_of_getElem? hv) g hb e.symm)
theorem Kept.below (h : Kept w B e enc vs xss) (hb : Below w.heap.size w w1) : Kept w1 B e enc vs xss := h.grown (grown_below hb none) (by simp)
/-- A row of another type is written. -/
theorem Kept.other {e2 : TypeId} {c : Array Value} {fz : Nat × Nat} {g2 : Nat} (h : Kept w B e enc vs xss) (hg : w.grownBy w1 (some g2)) (hc : w.heap[g2]? = some (.cells c e2 fz)) (hne : e ≠ e2) : Kept w1 B e enc vs xss := by
  refine h.grown hg ?_
  intro v hv g hb e1
  cases e1
  obtain ⟨c1, fz1, h1⟩ := h.kind v hv g2 hb
  rw [hc] at h1
  simp only [Option.some.injEq, Obj.cells.injEq] at h1
  exact hne h1.2.1.symm
theorem Kept.opt {row : Option Nat} {e2 : TypeId} (h : Kept w B e enc vs xss) (hg : w.grownBy w1 row) (hc : ∀ g, row = some g → ∃ c fz, w.heap[g]? = some (.cells c e2 fz)) (hne : e ≠ e2) : Kept w1 B e enc vs xss := by
  cases row with
  | none => exact h.grown hg (by simp)
  | some g => obtain ⟨c, fz, hx⟩ := hc g rfl; exact h.other hg hx hne
theorem Kept.snoc {M : Nat} {v : Value} {xs : List α} (h : Kept w B e enc vs xss) (hv : w.ownsRow M e 1 v xs.length (xs.map enc)) (hB : B ≤ M) (hM : ∀ u ∈ vs, ∀ g, u.ownBlock = some g → g < M) : Kept w B e enc (vs ++ [v]) (xss ++ [xs]) := by
  refine ⟨by simp [h.len], ?_, ?_⟩
  · intro i u ys hu hy
    by_cases hi : i < vs.length
    · rw [List.getElem?_append_left hi] at hu
      rw [List.getElem?_append_left (h.len ▸ hi)] at hy
      exact h.own i u ys hu hy
    · rw [List.getElem?_append_right (by omega)] at hu
      rw [List.getElem?_append_right (by have := h.len; omega)] at hy
      rw [List.getElem?_singleton] at hu hy
      split at hu
      · split at hy
        · cases hu; cases hy; exact own_weaken hv hB
        · cases hy
      · cases hu
  · have hlast : ∀ i u, (vs ++ [v])[i]? = some u → (i < vs.length ∧ u ∈ vs ∧ vs[i]? = some u) ∨ (i = vs.length ∧ u = v) := by
      intro i u hu
      by_cases hi : i < vs.length
      · rw [List.getElem?_append_left hi] at hu
        exact .inl ⟨hi, List.mem_of_getElem? hu, hu⟩
      · rw [List.getElem?_append_right (by omega), List.getElem?_singleton] at hu
        split at hu
        · cases hu; exact .inr ⟨by omega, rfl⟩
        · cases hu
    intro i j a b ha hb hij g hga hgb
    rcases hlast i a ha with ⟨hi, ham, ha'⟩ | ⟨hi, rfl⟩ <;> rcases hlast j b hb with ⟨hj, hbm, hb'⟩ | ⟨hj, rfl⟩
    · exact h.apart i j a b ha' hb' hij g hga hgb
    · have := hM a ham g hga; have := own_base hv g hgb; omega
    · have := hM b hbm g hgb; have := own_base hv g hga; omega
    · omega
/-- Row i is written (its old value is no longer asked for). -/
theorem Kept.put {i : Nat} {v : Value} {xs ys : List α} (h : Kept w B e enc vs xss) (hv : vs[i]? = some v) (hx : xss[i]? = some xs) (hg : w.grownBy w1 v.ownBlock) (ho : w1.ownsRow B e 1 v ys.length (ys.map enc)) : Kept w1 B e enc vs (xss.set i ys) := by
  refine ⟨by simp [h.len], ?_, h.apart⟩
  intro j u zs hu hz
  have hi : i < xss.length := (List.getElem?_eq_some_iff.1 hx).1
  by_cases hij : i = j
  · subst hij
    rw [hv] at hu
    cases hu
    rw [List.getElem?_set_self hi] at hz
    cases hz
    exact ho
  · rw [List.getElem?_set_ne hij] at hz
    refine World.ownsRow.kept (h.own j u zs hu hz) hg ?_
    cases hb : u.ownBlock with
    | none => exact .inl rfl
    | some g => exact .inr (fun e1 => h.apart j i u v hu hv (Ne.symm hij) g hb e1.symm)
theorem Kept.same {i : Nat} {v : Value} {xs : List α} (h : Kept w B e enc vs xss) (hv : vs[i]? = some v) (hx : xss[i]? = some xs) (hg : w.grownBy w1 v.ownBlock) (ho : w1.ownsRow B e 1 v xs.length (xs.map enc)) : Kept w1 B e enc vs xss := by
  have := h.put hv hx hg ho
  obtain ⟨hi, hxs⟩ := List.getElem?_eq_some_iff.1 hx
  subst hxs
  rwa [List.set_getElem_self] at this
end
end Go.Proofs.YtdmdkkdkmmkalaaGreat
