/- The book's lists of whole numbers: one more list. -/
import Derived.Test.YtdmdkkdkmmkalaaGreatBkM
namespace Go.Proofs.YtdmdkkdkmmkalaaGreat
open Go.RowKit

/-- Between the two appends. -/
structure Mid (w : World) (g : Nat) (V1 V' : Value) (ls was : List Value) (v : Value) (xss : List (List Int)) (xs : List Int) (M : Nat) : Prop where
  book : Blk w g 32 (bookI V1 V')
  rowV : w.ownsRow (g + 1) 34 1 V1 (ls.length + 1) (ls ++ [v])
  rowW : w.ownsRow (g + 1) 34 1 V' was.length was
  keptL : Kept w (g + 1) 3 encI (ls ++ [v]) (xss ++ [xs])
  keptW : Kept w (g + 1) 3 encI was xss
  apart : ∀ k, V1.ownBlock = some k → V'.ownBlock ≠ some k
theorem Mid.below {w w1 : World} {g : Nat} {V1 V' : Value} {ls was : List Value} {v : Value} {xss : List (List Int)} {xs : List Int} {M : Nat} (h : Mid w g V1 V' ls was v xss xs M) (hb : Below w.heap.size w w1) : Mid w1 g V1 V' ls was v xss xs M :=
  ⟨Blk.below h.book hb, own_below h.rowV hb, own_below h.rowW hb, h.keptL.below hb, h.keptW.below hb, h.apart⟩
theorem ne_of_kind {w : World} {B B2 : Nat} {e e2 : TypeId} {n n2 : Nat} {v v2 : Value} {xs xs2 : List Value} (h : w.ownsRow B e 1 v n xs) (h2 : w.ownsRow B2 e2 1 v2 n2 xs2) (hne : e ≠ e2) : ∀ z, v.ownBlock = some z → v2.ownBlock ≠ some z := by
  intro z hz hz2
  obtain ⟨c, fz, h1⟩ := Lib.ownsRow_kind h z hz
  obtain ⟨c2, fz2, h3⟩ := Lib.ownsRow_kind h2 z hz2
  rw [h1] at h3
  simp only [Option.some.injEq, Obj.cells.injEq] at h3
  exact hne h3.2.1
theorem kept_ne {w : World} {B B2 : Nat} {e e2 : TypeId} {α : Type} {enc : α → Value} {vs : List Value} {xss : List (List α)} (h : Kept w B e enc vs xss) {n2 : Nat} {v2 : Value} {xs2 : List Value} (h2 : w.ownsRow B2 e2 1 v2 n2 xs2) (hne : e ≠ e2) : ∀ v ∈ vs, ∀ z, v.ownBlock = some z → v2.ownBlock ≠ some z := by
  intro v hv z hz hz2
  obtain ⟨c, fz, h1⟩ := h.kind v hv z hz
  obtain ⟨c2, fz2, h3⟩ := Lib.ownsRow_kind h2 z hz2
  rw [h1] at h3
  simp only [Option.some.injEq, Obj.cells.injEq] at h3
  exact hne h3.2.1
theorem own_grown {w w1 : World} {B : Nat} {e : TypeId} {n : Nat} {v : Value} {xs : List Value} {row : Option Nat} (h : w.ownsRow B e 1 v n xs) (hg : w.grownBy w1 row) (hne : ∀ z, row = some z → v.ownBlock ≠ some z) : w1.ownsRow B e 1 v n xs := by
  refine World.ownsRow.kept h hg ?_
  cases hb : v.ownBlock with
  | none => exact .inl rfl
  | some q => exact .inr (fun e1 => hne q e1.symm hb)
/-- Behind the first append and its store. -/
theorem mid_of {w w1 : World} {g : Nat} {V V' V1 : Value} {ls was : List Value} {xss : List (List Int)} (h : IntsIn w g V V' ls was xss) {M : Nat} {v : Value} {xs : List Int} (hv : w.ownsRow M 3 1 v xs.length (xs.map encI)) (hgM : g + 1 ≤ M)
    (hM : ∀ u ∈ ls, ∀ z, u.ownBlock = some z → z < M)
    (hn : w1.ownsRow (g + 1) 34 1 V1 (ls.length + 1) (ls ++ [v])) (hg : w.grownBy w1 V.ownBlock) (hat : V1.ownBlock = V.ownBlock ∨ ∃ z, V1.ownBlock = some z ∧ w.heap.size ≤ z) :
    Mid (w1.setCell ⟨g, 2, none⟩ V1) g V1 V' ls was v xss xs M ∧ Below g w (w1.setCell ⟨g, 2, none⟩ V1) := by
  have hgl := Blk.lt h.book
  have hb1 : Blk w1 g 32 (bookI V V') := blk_grown h.book hg (fun e => by have := own_base h.rowV g e.symm; omega)
  have hrow : ∀ {B n : Nat} {e : TypeId} {u : Value} {ys : List Value}, w1.ownsRow B e 1 u n ys → (∀ z, u.ownBlock = some z → g < z) → (w1.setCell ⟨g, 2, none⟩ V1).ownsRow B e 1 u n ys := fun ho hz => ownsRow_setCell_other ho (fun e => by have := hz _ e; simp at this) _
  have hkept : ∀ {vs : List Value} {yss : List (List Int)}, Kept w1 (g + 1) 3 encI vs yss → Kept (w1.setCell ⟨g, 2, none⟩ V1) (g + 1) 3 encI vs yss := fun hk => hk.grown (grown_set w1 ⟨g, 2, none⟩ V1) (fun u hu z hz e => by have := (hk.lt u hu z hz).1; have e2 : g = z := Option.some.inj e; omega)
  have hk0 : Kept w (g + 1) 3 encI (ls ++ [v]) (xss ++ [xs]) := h.keptL.snoc hv hgM hM
  have hlv : ∀ u ∈ ls ++ [v], ∀ z, u.ownBlock = some z → V.ownBlock ≠ some z := kept_ne hk0 h.rowV (by decide)
  have hlw : ∀ u ∈ was, ∀ z, u.ownBlock = some z → V.ownBlock ≠ some z := kept_ne h.keptW h.rowV (by decide)
  refine ⟨⟨Blk.set hb1 2 V1, hrow hn (fun z hz => own_base hn z hz), hrow (own_grown h.rowW hg h.apart) (fun z hz => own_base h.rowW z hz), hkept (hk0.grown hg hlv), hkept (h.keptW.grown hg hlw), ?_⟩, ?_⟩
  · intro z hz hz2
    rcases hat with e | ⟨q, e, hq⟩
    · exact h.apart z (by rw [← e]; exact hz) hz2
    · rw [e] at hz; cases hz
      have := own_lt h.rowW _ hz2
      omega
  · exact (below_of_grown (B := g) hg (by omega) (fun z hz => by have := own_base h.rowV z hz; omega)).setCell (Nat.le_refl _) _
/-- Behind the second append and its store. -/
theorem ints_of {w w1 : World} {g : Nat} {V1 V' V2 : Value} {ls was : List Value} {xss : List (List Int)} {v u : Value} {xs : List Int} {M : Nat} (h : Mid w g V1 V' ls was v xss xs M) (few : ls.length < 250) (short : ∀ ys ∈ xss ++ [xs], ys.length ≤ 1000000)
    (hlw : ls.length = was.length) {M2 : Nat} (hu : w.ownsRow M2 3 1 u xs.length (xs.map encI)) (hgM : g + 1 ≤ M2) (hM : ∀ t ∈ was, ∀ z, t.ownBlock = some z → z < M2)
    (hn : w1.ownsRow (g + 1) 34 1 V2 (was.length + 1) (was ++ [u])) (hg : w.grownBy w1 V'.ownBlock) (hat : V2.ownBlock = V'.ownBlock ∨ ∃ z, V2.ownBlock = some z ∧ w.heap.size ≤ z) :
    IntsIn (w1.setCell ⟨g, 3, none⟩ V2) g V1 V2 (ls ++ [v]) (was ++ [u]) (xss ++ [xs]) ∧ Below g w (w1.setCell ⟨g, 3, none⟩ V2) := by
  have hgl := Blk.lt h.book
  have hb1 : Blk w1 g 32 (bookI V1 V') := blk_grown h.book hg (fun e => by have := own_base h.rowW g e.symm; omega)
  have hrow : ∀ {B n : Nat} {e : TypeId} {u : Value} {ys : List Value}, w1.ownsRow B e 1 u n ys → (∀ z, u.ownBlock = some z → g < z) → (w1.setCell ⟨g, 3, none⟩ V2).ownsRow B e 1 u n ys := fun ho hz => ownsRow_setCell_other ho (fun e => by have := hz _ e; simp at this) _
  have hkept : ∀ {vs : List Value} {yss : List (List Int)}, Kept w1 (g + 1) 3 encI vs yss → Kept (w1.setCell ⟨g, 3, none⟩ V2) (g + 1) 3 encI vs yss := fun hk => hk.grown (grown_set w1 ⟨g, 3, none⟩ V2) (fun u hu z hz e => by have := (hk.lt u hu z hz).1; have e2 : g = z := Option.some.inj e; omega)
  have hk0 : Kept w (g + 1) 3 encI (was ++ [u]) (xss ++ [xs]) := h.keptW.snoc hu hgM hM
  have hl1 : ∀ u ∈ ls ++ [v], ∀ z, u.ownBlock = some z → V'.ownBlock ≠ some z := kept_ne h.keptL h.rowW (by decide)
  have hl2 : ∀ t ∈ was ++ [u], ∀ z, t.ownBlock = some z → V'.ownBlock ≠ some z := kept_ne hk0 h.rowW (by decide)
  refine ⟨⟨Blk.set hb1 3 V2, ?_, ?_, hkept (h.keptL.grown hg hl1), hkept (hk0.grown hg hl2), ?_, by simp; omega, short⟩, ?_⟩
  · have := own_grown h.rowV hg (fun z hz hz2 => h.apart z hz2 hz)
    rw [List.length_append]
    exact hrow this (fun z hz => own_base h.rowV z hz)
  · rw [List.length_append]
    exact hrow hn (fun z hz => own_base hn z hz)
  · intro z hz hz2
    rcases hat with e | ⟨q, e, hq⟩
    · exact h.apart z hz (by rw [← e]; exact hz2)
    · rw [e] at hz2; cases hz2
      have := own_lt h.rowV _ hz
      omega
  · exact (below_of_grown (B := g) hg (by omega) (fun z hz => by have := own_base h.rowW z hz; omega)).setCell (Nat.le_refl _) _

section
variable {P : Program} {w : World}
/-- append that keeps, as one step of a region that draws its order. -/
theorem step_append_keep {ops : Array Oper} {o : Oper} {a : Act} {K : Act → World → Prop} {Q : Exit → Act → World → Prop} {E : Prop} (hgd : o.guard = none) (s x : Operand) (t : TypeId)
    (ho : o.op = .call { callee := .builtin .append, args := #[s, x], argTypes := #[t, t] })
    (base : Nat) (e : TypeId) (z : Value) (bytes : Nat) (ht : P.underlying t = some (.slice e)) (hinfo : (P.info? e).map (fun i => (i.zero, i.size, i.bytes)) = some (some z, 1, bytes))
    (hzs : z.cells.size = 1)
    (v : Value) (n : Nat) (xs : List Value) (hs : a.eval s = v) (hown : w.ownsRow base e 1 v n xs)
    (ad : Addr) (m c : Nat) (news : List Value) (hx : a.eval x = .slice (some ad) m c) (hl : news.length = m) (hnews : ∀ j u, news[j]? = some u → w.cell? (ad.add j) = some u) (h1 : ∀ u ∈ news, u.oneCell' = true)
    (h63 : n + m ≤ 1099511627776) (hbytes : bytes ≤ 128) (hbase : base ≤ w.heap.size)
    (h : ∀ v' w', w'.ownsRow base e 1 v' (n + m) (xs ++ news) → w'.ownsRow base e 1 v n xs → w.grownBy w' v.ownBlock → (v'.ownBlock = v.ownBlock ∨ (v'.ownBlock = some w.heap.size ∧ w.grownBy w' none)) → K (a.put o.dst v') w') :
    if Region.wanted o (yielded ops a.tmps) = true then Oper.wp P o a w K Q else E := by
  rw [if_pos (show Region.wanted o (yielded ops a.tmps) = true by simp [Region.wanted, hgd])]
  obtain ⟨v', w', hr, h2, h3, h4, h5⟩ := run_append_keep (P := P) w base t o.type e z bytes ht hinfo hzs v n xs hown ad m c news hl hnews h1 h63 hbytes hbase
  unfold Oper.wp execOp
  simp only [ho, resolve, invoke, builtin, Sem.run_bind, Sem.run_pure, Result.andThen_ok, List.map_toArray, List.map_cons, List.map_nil, hs, hx, hr]
  exact h v' w' h2 h3 h4 h5
end

set_option maxRecDepth 100000 in
set_option maxHeartbeats 1000000 in
theorem ints_any {w : World} {g : Nat} {V V' : Value} {ls was : List Value} {xss : List (List Int)} (h : IntsIn w g V V' ls was xss) (few : ls.length < 250) {M : Nat} {v : Value} {xs : List Int} (hv : w.ownsRow M 3 1 v xs.length (xs.map encI)) (hgM : g + 1 ≤ M)
    (hM : ∀ u ∈ ls, ∀ z, u.ownBlock = some z → z < M) (hx : xs.length ≤ 1000000) :
    Calls Tryz.prog 5 #[.pointer (some ⟨g, 0, none⟩), v] w fun e w' => e = .returned (.tuple #[]) ∧ ∃ V1 V2 u, IntsIn w' g V1 V2 (ls ++ [v]) (was ++ [u]) (xss ++ [xs]) ∧ Below g w w' := by
  obtain ⟨n, hn⟩ : ∃ n, ls.length = n := ⟨_, rfl⟩
  have hwas : was.length = n := by rw [h.keptW.len, ← h.keptL.len, hn]
  have H := Lib.hid h
  have HV := Lib.hid hv
  have HM := Lib.hid hM
  have hV := h.rowV
  rw [hn] at few hV
  obtain ⟨A1, c1, rfl⟩ := own_form hV
  obtain ⟨B1, q, r1, rfl⟩ : ∃ A n c, v = .slice A n c := by obtain ⟨A, c, e⟩ := own_form hv; exact ⟨_, _, _, e⟩
  have hb2 : w.cell? ⟨g, 2, none⟩ = some (.slice A1 n c1) := Blk.cell h.book 2
  have hgl := Blk.lt h.book
  have HO := Lib.hid hV
  have HN := Lib.hid hn
  have HW := Lib.hid hwas
  clear h hv hM hV hn hwas
  go_enter Tryz.func5, Tryz.ntmps5
  go_wp2_with (refine list_append_keep rfl (.tmp 14) (.tmp 16) 25 rfl (g + 1) 34 (.slice none 0 0) 24 Tryz.underlying25 info_ints rfl (.slice A1 n c1) n _ (by simp [Act.eval]) (World.ownsRow.alloc HO.out _) ⟨w.heap.size, 0, none⟩ 1 1 [.slice B1 q r1] (by simp [Act.eval]) rfl (news_one _ _ _) (news_one_cell _ rfl) (by omega) (by decide) (by simp; omega) ?_; intro v1 w1 hn1 ho1 hg1 hat1; obtain ⟨A2, c2, rfl⟩ := own_form hn1; have hal : Below w.heap.size w (w.alloc (.cells #[.slice B1 q r1] 34)) := (Below.refl _ _).alloc (Nat.le_refl _) _; have hb1 := blk_grown (Blk.alloc H.out.book _) hg1 (fun e => by have := own_base HO.out g e.symm; omega); have hc1 : w1.cell? ⟨g, 2, none⟩ = some (.slice A1 n c1) := Blk.cell hb1 2; have hf1 : w1.frozen? ⟨g, 2, none⟩ = false := Blk.free hb1 2)
  have hmid := mid_of (H.out.below hal) (own_below HV.out hal) hgM HM.out (by rw [HN.out]; exact hn1) hg1 (by rcases hat1 with e | ⟨e, _⟩; exact .inl e; exact .inr ⟨_, e, Nat.le_refl _⟩)
  obtain ⟨W, hW⟩ : ∃ W, W = w1.setCell ⟨g, 2, none⟩ (.slice A2 (n + 1) c2) := ⟨_, rfl⟩
  rw [← hW] at hmid ⊢
  have hvW : W.ownsRow M 3 1 (.slice B1 q r1) xs.length (xs.map encI) := by
    have h1 : w1.ownsRow M 3 1 (.slice B1 q r1) xs.length (xs.map encI) := own_grown (own_below HV.out hal) hg1 (fun z hz hz2 => ne_of_kind (own_below HO.out hal) (own_below HV.out hal) (by decide) z hz hz2)
    rw [hW]
    exact ownsRow_setCell_other h1 (fun e => by have := own_base h1 _ e; simp at this; omega) _
  obtain ⟨A3, c3, e3⟩ := own_form hmid.1.rowW
  rw [HW.out] at e3
  subst e3
  have hc3 : W.cell? ⟨g, 3, none⟩ = some (.slice A3 n c3) := Blk.cell hmid.1.book 3
  have hf3 : W.frozen? ⟨g, 3, none⟩ = false := Blk.free hmid.1.book 3
  have hbW : Below g w W := hal.mono (by omega) |>.trans hmid.2
  have hoW := hmid.1.rowW
  rw [HW.out] at hoW
  have HOW := Lib.hid hoW
  have HMID := Lib.hid hmid.1
  have HVW := Lib.hid hvW
  have hgW := Blk.lt hmid.1.book
  clear hmid hvW hoW hW hc1 hf1 hb1 hal hat1 hg1 ho1 hn1 hb2
  have hdr := below_drew_self W
  have HD := Lib.hid hdr
  have hszd : W.heap.size ≤ W.drew.heap.size := hdr.size
  clear hdr
  go_region_law (first
    | (go_simp; go_at_call 15; refine (copyInts_any M _ xs (by omega) _ (own_below HVW.out HD.out)).mono ?_; rintro e w2 ⟨u, rfl, hu, hbu⟩; obtain ⟨B4, r4, rfl⟩ := own_form hu; have hc4 : w2.cell? ⟨g, 3, none⟩ = some (.slice A3 n c3) := ((bcell hbu).1 g 3 hgW).trans hc3; have hf4 : w2.frozen? ⟨g, 3, none⟩ = false := ((bcell hbu).2 g 3 hgW).trans hf3; have hszu := hbu.size; have hc6 : (w2.alloc (.cells #[.slice B4 xs.length r4] 34)).cell? ⟨g, 3, none⟩ = some (.slice A3 n c3) := (by rw [World.cell?_alloc_past _ _ _ (by show g < _; omega)]; exact hc4))
    | (refine step_append_keep rfl (.tmp 24) (.tmp 27) 25 rfl (g + 1) 34 (.slice none 0 0) 24 Tryz.underlying25 info_ints rfl (.slice A3 n c3) n _ (by simp [Act.eval]) (World.ownsRow.alloc (own_below (own_below HOW.out HD.out) hbu) _) ⟨w2.heap.size, 0, none⟩ 1 1 [.slice B4 xs.length r4] (by simp [Act.eval]) rfl (news_one _ _ _) (news_one_cell _ rfl) (by omega) (by decide) (by simp; omega) ?_; intro v3 w3 hn3 ho3 hg3 hat3; obtain ⟨A5, c5, rfl⟩ := own_form hn3; have hb3 := blk_grown (Blk.alloc (Blk.below (Blk.below HMID.out.book HD.out) hbu) _) hg3 (fun e => by have := own_base HOW.out g e.symm; omega); have hc5 : w3.cell? ⟨g, 3, none⟩ = some (.slice A3 n c3) := Blk.cell hb3 3; have hf5 : w3.frozen? ⟨g, 3, none⟩ = false := Blk.free hb3 3))
  all_goals
    go_wp2
    go_end0
    have hal2 : Below w2.heap.size w2 (w2.alloc (.cells #[.slice B4 xs.length r4] 34)) := (Below.refl _ _).alloc (Nat.le_refl _) _
    have hfin := ints_of (((HMID.out.below HD.out).below hbu).below hal2) (by rw [HN.out]; exact few) (by intro ys hy; rcases List.mem_append.1 hy with hy | hy; exact H.out.short ys hy; rw [List.mem_singleton] at hy; subst hy; exact hx) (by rw [HN.out, HW.out]) (own_below hu hal2) (by omega) (fun t ht z hz => Nat.lt_of_lt_of_le (HMID.out.keptW.lt t ht z hz).2 hszd) (by rw [HW.out]; exact hn3) hg3 (by rcases hat3 with e | ⟨e, _⟩; exact .inl e; exact .inr ⟨_, e, Nat.le_refl _⟩)
    refine ⟨rfl, _, _, _, hfin.1, ?_⟩
    exact (((hbW.trans (HD.out.mono (by omega))).trans (hbu.mono (by omega))).trans (hal2.mono (by omega))).trans hfin.2
end Go.Proofs.YtdmdkkdkmmkalaaGreat
