/- The book's lists of whole numbers: grow. -/
import Derived.Test.YtdmdkkdkmmkalaaGreatBkQ
namespace Go.Proofs.YtdmdkkdkmmkalaaGreat
open Go.RowKit

theorem info_ints : (Tryz.prog.info? 34).map (fun i => (i.zero, i.size, i.bytes)) = some (some (.slice none 0 0), 1, 24) := by kernel_rfl
/-- Rows that hold zss (they may share memory with others). -/
structure RowsIn (w : World) (B : Nat) (gs : List Value) (zss : List (List Int)) : Prop where
  len : gs.length = zss.length
  own : ∀ (i : Nat) (v : Value) (xs : List Int), gs[i]? = some v → zss[i]? = some xs → w.ownsRow B 3 1 v xs.length (xs.map encI) ∧ xs.length ≤ 1000100
/-- Row k of ls grows, the world too; the rows that were grown before are of other blocks. -/
structure GrownTo (w0 w : World) (g k : Nat) (ls : List Value) (V2 : Value) (gs : List Value) (zss : List (List Int)) : Prop where
  out : w.ownsRow w0.heap.size 34 1 V2 k gs
  rows : RowsIn w (g + 1) gs zss
  far : ∀ u ∈ gs, ∀ z, u.ownBlock = some z → w0.heap.size ≤ z ∨ ∃ i, i < k ∧ ∃ v, ls[i]? = some v ∧ v.ownBlock = some z
  marked : IsMarked zss
  size : w0.heap.size ≤ w.heap.size
theorem GrownTo.below {w0 w w1 : World} {g k : Nat} {ls gs : List Value} {V2 : Value} {zss : List (List Int)} (h : GrownTo w0 w g k ls V2 gs zss) (hb : Below w.heap.size w w1) : GrownTo w0 w1 g k ls V2 gs zss :=
  ⟨own_below h.out hb, ⟨h.rows.len, fun i v xs hv hx => ⟨own_below (h.rows.own i v xs hv hx).1 hb, (h.rows.own i v xs hv hx).2⟩⟩, h.far, h.marked, Nat.le_trans h.size hb.size⟩
theorem own_row_other {w w1 : World} {B : Nat} {e e2 : TypeId} {n : Nat} {v : Value} {xs : List Value} {row : Option Nat} (h : w.ownsRow B e 1 v n xs) (hg : w.grownBy w1 row) (hk : ∀ z, row = some z → ∃ c fz, w.heap[z]? = some (.cells c e2 fz)) (hne : e ≠ e2) : w1.ownsRow B e 1 v n xs := by
  refine World.ownsRow.kept h hg ?_
  cases hb : v.ownBlock with
  | none => exact .inl rfl
  | some q =>
    refine .inr ?_
    intro e1
    obtain ⟨c, fz, h1⟩ := hk q e1.symm
    obtain ⟨c2, fz2, h2⟩ := Lib.ownsRow_kind h q hb
    rw [h1] at h2
    simp only [Option.some.injEq, Obj.cells.injEq] at h2
    exact hne h2.2.1.symm
/-- Behind the growing of row k. -/
theorem GrownTo.row {w0 w w1 : World} {g k : Nat} {ls gs : List Value} {V V' V2 : Value} {xss zss : List (List Int)} (h : GrownTo w0 w g k ls V2 gs zss) (hL0 : LsIn w0 g V V' ls xss) (hL : LsIn w g V V' ls xss) {a : Value} (ha : ls[k]? = some a) {xs : List Int} (hx : xss[k]? = some xs) (hg : w.grownBy w1 a.ownBlock) : GrownTo w0 w1 g k ls V2 gs zss := by
  have hk := Lib.ownsRow_kind (hL.keptL.own k a xs ha hx)
  refine ⟨own_row_other h.out hg hk (by decide), ⟨h.rows.len, fun i v ys hv hy => ⟨?_, (h.rows.own i v ys hv hy).2⟩⟩, h.far, h.marked, Nat.le_trans h.size hg.size⟩
  refine World.ownsRow.kept (h.rows.own i v ys hv hy).1 hg ?_
  cases hb : v.ownBlock with
  | none => exact .inl rfl
  | some q =>
    refine .inr ?_
    intro e1
    rcases h.far v (List.mem_of_getElem? hv) q hb with hge | ⟨j, hj, u, hu, hub⟩
    · have := own_lt (hL0.keptL.own k a xs ha hx) q e1.symm
      omega
    · exact hL.keptL.apart j k u a hu ha (by omega) q hub e1.symm
/-- Row k is done: v2 is put behind the others. -/
theorem GrownTo.next {w0 w w1 : World} {g k : Nat} {ls gs : List Value} {V2 V3 v2 a : Value} {zss : List (List Int)} {zs : List Int} (h : GrownTo w0 w g k ls V2 gs zss) (ha : ls[k]? = some a) (hgs : gs.length = k)
    (hv : w.ownsRow (g + 1) 3 1 v2 zs.length (zs.map encI)) (hz : zs.length ≤ 1000100) (hm : zs = marksI k 0 zs.length) (hat : v2.ownBlock = a.ownBlock ∨ ∃ z, v2.ownBlock = some z ∧ w0.heap.size ≤ z)
    (ho : w1.ownsRow w0.heap.size 34 1 V3 (k + 1) (gs ++ [v2])) (hg : w.grownBy w1 V2.ownBlock) : GrownTo w0 w1 g (k + 1) ls V3 (gs ++ [v2]) (zss ++ [zs]) := by
  have hk := Lib.ownsRow_kind h.out
  have hlz : zss.length = k := by rw [← h.rows.len, hgs]
  refine ⟨ho, ⟨by simp [h.rows.len], ?_⟩, ?_, ?_, Nat.le_trans h.size hg.size⟩
  · intro i u ys hu hy
    by_cases hi : i < k
    · rw [List.getElem?_append_left (by omega)] at hu hy
      have := h.rows.own i u ys hu hy
      exact ⟨own_row_other this.1 hg hk (by decide), this.2⟩
    · rw [List.getElem?_append_right (by omega), List.getElem?_singleton] at hu hy
      split at hu
      · rw [hlz] at hy
        rw [hgs] at *
        split at hy
        · cases hu; cases hy; exact ⟨own_row_other hv hg hk (by decide), hz⟩
        · exfalso; omega
      · cases hu
  · intro u hu z hz2
    rcases List.mem_append.1 hu with hu | hu
    · rcases h.far u hu z hz2 with h1 | ⟨i, hi, r⟩
      · exact .inl h1
      · exact .inr ⟨i, by omega, r⟩
    · rw [List.mem_singleton] at hu
      subst hu
      rcases hat with e | ⟨z2, e, hge⟩
      · exact .inr ⟨k, by omega, a, ha, by rw [← e]; exact hz2⟩
      · rw [e] at hz2; cases hz2; exact .inl hge
  · intro i ys hy
    by_cases hi : i < k
    · rw [List.getElem?_append_left (by omega)] at hy
      exact h.marked i ys hy
    · rw [List.getElem?_append_right (by omega), List.getElem?_singleton] at hy
      split at hy
      · cases hy
        have : i = k := by omega
        rw [this]; exact hm
      · cases hy
theorem LsIn.same {w w1 : World} {g : Nat} {V V' : Value} {ls : List Value} {xss : List (List Int)} (h : LsIn w g V V' ls xss) {k : Nat} {a : Value} {xs : List Int} (ha : ls[k]? = some a) (hx : xss[k]? = some xs)
    (hg : w.grownBy w1 a.ownBlock) (ho : w1.ownsRow (g + 1) 3 1 a xs.length (xs.map encI)) : LsIn w1 g V V' ls xss := by
  have := h.put ha hx hg ho rfl
  have e : xss.set k xs = xss := by
    obtain ⟨hi, hxs⟩ := List.getElem?_eq_some_iff.1 hx
    rw [← hxs]; exact List.set_getElem_self hi
  rwa [e] at this
theorem LsIn.other {w w1 : World} {g B : Nat} {V V' V2 : Value} {ls gs : List Value} {k : Nat} {xss : List (List Int)} (h : LsIn w g V V' ls xss) (h2 : w.ownsRow B 34 1 V2 k gs) (hB : ∀ z, V.ownBlock = some z → z < B) (hg2 : g < B) (hg : w.grownBy w1 V2.ownBlock) : LsIn w1 g V V' ls xss := by
  have hk := Lib.ownsRow_kind h2
  have hge := own_base h2
  refine ⟨blk_grown h.book hg (fun e => by have := hge g e.symm; omega), World.ownsRow.kept h.rowV hg ?_, h.keptL.opt hg hk (by decide), h.few, h.short⟩
  cases hb : V.ownBlock with
  | none => exact .inl rfl
  | some q => exact .inr (fun e1 => by have := hge q e1.symm; have := hB q hb; omega)

theorem grow_app {W1 w w1 w2 : World} {B : Nat} {v v1 v2 : Value} {q j p m k : Nat} {xs : List Value} (hp : q + j = p) (h : Grew W1 w B 3 v q xs v1 ((marksI k q j).map encI)) (hb : Below w.heap.size w w1)
    (hn2 : w2.ownsRow B 3 1 v2 (p + m) (xs ++ (marksI k q j).map encI ++ (marksI k p m).map encI)) (ho2 : w2.ownsRow B 3 1 v1 p (xs ++ (marksI k q j).map encI)) (hg2 : w1.grownBy w2 v1.ownBlock)
    (hat2 : v2.ownBlock = v1.ownBlock ∨ (v2.ownBlock = some w1.heap.size ∧ w1.grownBy w2 none)) : Grew W1 w2 B 3 v q xs v2 ((marksI k q (j + m)).map encI) := by
  subst hp
  have hyl : ((marksI k q j).map encI).length = j := by simp [marksI]
  have := (h.below hb).app (m := m) (news := (marksI k (q + j) m).map encI) (by simp [marksI]) (by rw [hyl]; exact hn2) (by rw [hyl]; exact ho2) hg2 hat2
  rw [← List.map_append, marksI_app] at this
  exact this

set_option maxRecDepth 100000 in
set_option maxHeartbeats 1000000 in
theorem growInts_any {w : World} {g : Nat} {V V' : Value} {ls : List Value} {xss : List (List Int)} (h : LsIn w g V V' ls xss) (hmk : IsMarked xss) :
    Calls Tryz.prog 38 #[.pointer (some ⟨g, 0, none⟩)] w fun e w' => ∃ V2 gs zss, e = .returned V2 ∧ GrownTo w w' g ls.length ls V2 gs zss ∧ gs.length = ls.length ∧ LsIn w' g V V' ls xss ∧ Below (g + 1) w w' := by
  obtain ⟨n, hn⟩ : ∃ n, ls.length = n := ⟨_, rfl⟩
  have hn250 := h.few
  rw [hn] at hn250 ⊢
  have H := Lib.hid h
  obtain ⟨A1, c1, e1⟩ := own_form h.rowV
  rw [hn] at e1
  subst e1
  have HN := Lib.hid hn
  have hgl := Blk.lt h.book
  have HMK := Lib.hid hmk
  clear h hn hmk
  go_enter Tryz.func38, Tryz.ntmps38
  go_wp2
  go_loopw [3, 4] (fun o i wr => ∃ (k : Nat) (gs : List Value) (zss : List (List Int)), k ≤ n ∧ i = .int .i64 (k : Int) ∧ gs.length = k ∧ Hid (GrownTo w wr g k ls o gs zss) ∧ Hid (LsIn wr g (.slice A1 n c1) V' ls xss) ∧ Hid (Below (g + 1) w wr)) (fun _ i _ => n - (intOf i).toNat)
  case atStart => exact ⟨0, [], [], by omega, rfl, rfl, Lib.hid ⟨own_nil _ _ _ _, ⟨rfl, by simp⟩, by simp, fun i ys h => by simp at h, Nat.le_refl _⟩, H, Lib.hid (Below.refl _ _)⟩
  case round =>
    obtain ⟨k, gs, zss, hk, rfl, hgs, HG, HL, HB⟩ := hrel
    have hb2 : wr.cell? ⟨g, 2, none⟩ = some (.slice A1 n c1) := Blk.cell HL.out.book 2
    obtain ⟨A2, c2, e2⟩ := own_form HG.out.out
    subst e2
    by_cases hlt : k < n
    · obtain ⟨g1, d1, a, xs, e1, hc1, hx, ha, hoa, hsh⟩ := HL.out.at_ HN.out k hlt
      cases e1
      obtain ⟨q, hq⟩ : ∃ q, xs.length = q := ⟨_, rfl⟩
      rw [hq] at hsh hoa
      obtain ⟨B1, r1, rfl⟩ := own_form hoa
      have HX := Lib.hid hx
      have HQ := Lib.hid hq
      have HA := Lib.hid ha
      have HST := Lib.hid (Grew.start hoa)
      clear hx hq ha hoa
      obtain ⟨W1, hW1⟩ : ∃ W, W = wr := ⟨_, rfl⟩
      rw [← hW1] at HST HG HL HB
      have HW1 := Lib.hid hW1
      clear hW1
      go_wp2_with fail
      go_loopw [5, 6] (fun l t wr => ∃ (j : Nat), j ≤ 12 ∧ t = .int .i64 (j : Int) ∧ Hid (Grew W1 wr (g + 1) 3 (.slice B1 q r1) q (xs.map encI) l ((marksI k q j).map encI))) (fun _ t _ => 12 - (intOf t).toNat)
      case atStart => exact ⟨0, by omega, rfl, by rw [← HW1.out]; exact HST⟩
      case round =>
        obtain ⟨j, hj, rfl, HR⟩ := hrel
        have hnew := HR.out.new
        rw [List.length_map, marksI_length] at hnew
        obtain ⟨p, hp⟩ : ∃ p, q + j = p := ⟨_, rfl⟩
        rw [hp] at hnew
        have hp6 : p ≤ 1000012 := by omega
        have HP := Lib.hid hp
        clear hp
        obtain ⟨B3, r3, rfl⟩ := own_form hnew
        have HNW := Lib.hid hnew
        clear hnew
        by_cases hlt2 : j < 12
        · have hmk : ∀ W : World, Calls Tryz.prog 67 #[.int .i64 (k : Int), .int .i64 (p : Int), .int .i64 1] W fun e w' => ∃ v, e = .returned v ∧ w'.ownsRow W.heap.size 3 1 v 1 ((marksI k p 1).map encI) ∧ Below W.heap.size W w' := fun W => markInts_any k p 1 (by omega) (by omega) W
          have HK := Lib.hid hmk
          clear hmk
          go_wp2_with fail
          refine (HK.out _).mono ?_
          rintro e w1 ⟨mv, rfl, hmo, hb1⟩
          obtain ⟨b4, r4, rfl⟩ := own_pos hmo (by omega)
          have hold := own_below HNW.out hb1
          have hsz1 := hb1.size
          have hgl1 : g + 1 ≤ w1.heap.size := by have := Blk.lt HL.out.book; have := HR.out.grown.size; omega
          go_wp2_with (refine list_append_keep rfl (.tmp 27) (.tmp 31) 34 rfl (g + 1) 3 (.int .i64 0) 8 Tryz.underlying34 info_int rfl (.slice B3 p r3) p _ (by simp [Act.eval]) hold ⟨b4, 0, none⟩ 1 r4 ((marksI k p 1).map encI) (by simp [Act.eval]) (by simp [marksI]) (own_news hmo rfl) (encs_cell _ (fun _ => rfl) _) (by omega) (by decide) hgl1 ?_; intro v2 w2 hn2 ho2 hg2 hat2; obtain ⟨B5, r5, rfl⟩ := own_form hn2)
          go_wp2
          refine ⟨⟨j + 1, by omega, by go_num, ?_⟩, by simp [intOf]; omega⟩
          exact Lib.hid (grow_app HP.out HR.out hb1 hn2 ho2 hg2 hat2)
        · obtain rfl : j = 12 := by omega
          have hmk : ∀ W : World, Calls Tryz.prog 67 #[.int .i64 (k : Int), .int .i64 (p : Int), .int .i64 60] W fun e w' => ∃ v, e = .returned v ∧ w'.ownsRow W.heap.size 3 1 v 60 ((marksI k p 60).map encI) ∧ Below W.heap.size W w' := fun W => markInts_any k p 60 (by omega) (by omega) W
          have HK := Lib.hid hmk
          clear hmk
          go_wp2_with fail
          refine (HK.out _).mono ?_
          rintro e w1 ⟨mv, rfl, hmo, hb1⟩
          obtain ⟨b4, r4, rfl⟩ := own_pos hmo (by omega)
          have hold := own_below HNW.out hb1
          have hsz1 := hb1.size
          have hgl1 : g + 1 ≤ w1.heap.size := by have := Blk.lt HL.out.book; have := HR.out.grown.size; omega
          go_wp2_with (first | (refine list_append_keep rfl (.tmp 34) (.tmp 38) 34 rfl (g + 1) 3 (.int .i64 0) 8 Tryz.underlying34 info_int rfl (.slice B3 p r3) p _ (by simp [Act.eval]) hold ⟨b4, 0, none⟩ 60 r4 ((marksI k p 60).map encI) (by simp [Act.eval]) (by simp [marksI]) (own_news hmo rfl) (encs_cell _ (fun _ => rfl) _) (by omega) (by decide) hgl1 ?_; intro v2 w2 hn2 ho2 hg2 hat2; obtain ⟨B5, r5, rfl⟩ := own_form hn2; have HF := Lib.hid (grow_app HP.out HR.out hb1 hn2 ho2 hg2 hat2); have HG2 := Lib.hid (HG.out.row H.out HL.out HA.out HX.out HF.out.grown); have hsz2 := HG2.out.size) | (refine list_append_own rfl (.tmp 33) (.tmp 40) 25 rfl w.heap.size 34 (.slice none 0 0) 1 24 Tryz.underlying25 info_ints rfl (by decide) (.slice A2 k c2) k _ (by simp [Act.eval]) (World.ownsRow.alloc HG2.out.out _) ⟨w2.heap.size, 0, none⟩ 1 1 [.slice B5 (p + 60) r5] (by simp [Act.eval]) rfl (news_one _ _ _) (news_one_cell _ rfl) (by omega) (by decide) (by simp; omega) ?_; intro v3 w3 hn3 hg3; obtain ⟨B6, r6, rfl⟩ := own_form hn3))
          go_wp2
          have hal : Below w2.heap.size w2 (w2.alloc (.cells #[.slice B5 (p + 60) r5] 34)) := (Below.refl _ _).alloc (Nat.le_refl _) _
          have hL2 := (HL.out.same HA.out HX.out (by have := HF.out.grown; exact this) (by rw [HQ.out]; exact HF.out.old)).below hal
          have hxm : xs = marksI k 0 q := by have := HMK.out k xs HX.out; rwa [HQ.out] at this
          have hzs : xs ++ marksI k q (12 + 60) = marksI k 0 (q + 72) := by rw [hxm]; have := marksI_app k 0 q 72; rw [Nat.zero_add] at this; exact this
          have hzl : (xs ++ marksI k q (12 + 60)).length = q + 72 := by rw [hzs, marksI_length]
          have hnw := own_below HF.out.new hal
          rw [List.length_map, marksI_length, ← List.map_append, ← hzl] at hnw
          have hgl0 := Blk.lt H.out.book
          have hsW : w.heap.size ≤ W1.heap.size := HG.out.size
          have hnext := (HG2.out.below hal).next HA.out hgs hnw (by omega) (by rw [hzl]; exact hzs) (by rcases HF.out.at_ with e | ⟨z, e, hz⟩; exact .inl e; exact .inr ⟨z, e, by omega⟩) hn3 hg3
          refine ⟨⟨k + 1, _, _, by omega, by go_num, by simp [hgs], Lib.hid hnext, Lib.hid (hL2.other (HG2.out.below hal).out (own_lt H.out.rowV) hgl0 hg3), Lib.hid ?_⟩, by simp [intOf]; omega⟩
          have hb4 : Below (g + 1) w w2 := HB.out.trans (below_of_grown HF.out.grown (by omega) (fun z hz => own_base HF.out.old z hz))
          exact (hb4.trans (hal.mono (by omega))).grown hg3 (by simp; omega) (fun z hz => by have := own_base HG2.out.out z hz; omega)
    · obtain rfl : k = n := by omega
      go_wp2
      go_ret
      exact ⟨_, gs, zss, rfl, HG.out, hgs, HL.out, HB.out⟩
end Go.Proofs.YtdmdkkdkmmkalaaGreat
