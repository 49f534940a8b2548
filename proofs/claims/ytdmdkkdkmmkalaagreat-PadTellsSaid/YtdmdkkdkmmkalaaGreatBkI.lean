/- The book's lists of whole numbers: copy, same, marks. -/
import Derived.Test.YtdmdkkdkmmkalaaGreatBk
import Derived.Test.YtdmdkkdkmmkalaaGreatPadA
namespace Go.Proofs.YtdmdkkdkmmkalaaGreat
open Go.RowKit

abbrev encI : Int → Value := Value.int .i64
def markI (i k : Nat) : Int := -1000000 * i - k - 7
def marksI (i from_ n : Nat) : List Int := (List.range n).map fun k => markI i (from_ + k)
theorem marksI_length (i f n : Nat) : (marksI i f n).length = n := by simp [marksI]
theorem marksI_succ (i f n : Nat) : marksI i f (n + 1) = marksI i f n ++ [markI i (f + n)] := by simp [marksI, List.range_succ]
theorem marksI_app (i f n m : Nat) : marksI i f n ++ marksI i (f + n) m = marksI i f (n + m) := by
  induction m with
  | zero => simp [marksI]
  | succ m ih => rw [marksI_succ, ← List.append_assoc, ih, ← Nat.add_assoc, marksI_succ, Nat.add_assoc]

set_option maxRecDepth 100000 in
set_option maxHeartbeats 1000000 in
theorem markInts_any (i f n : Nat) (hi : i ≤ 1000) (hn : f + n ≤ 1000000000) (w : World) :
    Calls Tryz.prog 67 #[.int .i64 (i : Int), .int .i64 (f : Int), .int .i64 (n : Int)] w fun e w' => ∃ v, e = .returned v ∧ w'.ownsRow w.heap.size 3 1 v n ((marksI i f n).map encI) ∧ Below w.heap.size w w' := by
  go_enter Tryz.func67, Tryz.ntmps67
  go_wp2
  go_loopw [7, 8] (fun v j wr => ∃ k : Nat, k ≤ n ∧ j = .int .i64 ((f + k : Nat) : Int) ∧ wr.ownsRow w.heap.size 3 1 v k ((marksI i f k).map encI) ∧ Below w.heap.size w wr) (fun _ j _ => f + n - (intOf j).toNat)
  case atStart => exact ⟨0, by omega, by simp, own_nil _ _ _ _, Below.refl _ _⟩
  case round =>
    obtain ⟨k, hk, rfl, hown, hb⟩ := hrel
    obtain ⟨A, c, rfl⟩ := own_slice hown
    by_cases hlt : k < n
    · obtain ⟨x, hx⟩ : ∃ x : Int, x = markI i (f + k) := ⟨_, rfl⟩
      have hx2 : -1000000 * (i : Int) - ((f + k : Nat) : Int) - 7 = x := hx.symm
      have hsz := hb.size
      have HX := Lib.hid hx
      obtain ⟨j, hj⟩ : ∃ j : Nat, f + k = j := ⟨_, rfl⟩
      rw [hj] at hx2 ⊢
      have HJ := Lib.hid hj
      have hjl : j < f + n := by omega
      have hjm : j + 1 ≤ 1000000000 := by omega
      clear hj hx
      go_wp2_with (refine list_append_own rfl (.tmp 17) (.tmp 23) 34 rfl w.heap.size 3 (.int .i64 0) 1 8 Tryz.underlying34 info_int rfl (by decide) (.slice A k c) k _ (by simp [Act.eval]) (by first | exact hown.alloc _ | exact hown.drew.alloc _) ⟨wr.heap.size, 0, none⟩ 1 1 [encI x] (by simp [Act.eval]) rfl (news_one _ _ _) (news_one_cell _ rfl) (by omega) (by decide) (by simp; omega) ?_; intro v1 w1 hown1 hg1)
      go_wp2
      have hb1 : Below w.heap.size w w1 := (hb.alloc hsz _).grown hg1 (by simp; omega) (fun g hg => own_base hown g hg)
      have hx3 := HX.out
      obtain rfl := HJ.out
      refine ⟨⟨k + 1, by omega, by go_num, ?_, hb1⟩, by simp [intOf]; omega⟩
      rw [marksI_succ, List.map_append, ← hx3]
      exact hown1
    · obtain rfl : k = n := by omega
      go_wp2
      go_ret
      exact ⟨_, rfl, hown, hb⟩

/-- The row holds these numbers; it may be nil. -/
abbrev RowI (w : World) (v : Value) (xs : List Int) : Prop := ∃ B, w.ownsRow B 3 1 v xs.length (xs.map encI)

set_option maxRecDepth 100000 in
set_option maxHeartbeats 1000000 in
theorem copyInts_any (B : Nat) (v : Value) (xs : List Int) (hx : xs.length ≤ 1000000000) (w : World) (hown : w.ownsRow B 3 1 v xs.length (xs.map encI)) :
    Calls Tryz.prog 15 #[v] w fun e w' => ∃ u, e = .returned u ∧ w'.ownsRow w.heap.size 3 1 u xs.length (xs.map encI) ∧ Below w.heap.size w w' := by
  rcases own_forms hown with ⟨rfl, h0⟩ | ⟨g, c, rfl⟩
  · have hx0 : xs = [] := List.eq_nil_of_length_eq_zero h0
    subst hx0
    go_enter Tryz.func15, Tryz.ntmps15
    go_wp2_with (refine list_append_none rfl (.const (.slice none 0 0)) (.tmp 3) 34 rfl w.heap.size 3 (.int .i64 0) 1 8 Tryz.underlying34 info_int (.slice none 0 0) 0 [] (by simp [Act.eval]) (own_nil _ _ _ _) (by simp [Act.eval]) ?_)
    go_wp2
    go_ret
    exact ⟨_, rfl, own_nil _ _ _ _, Below.refl _ _⟩
  · go_enter Tryz.func15, Tryz.ntmps15
    go_wp2_with (refine list_append_own rfl (.const (.slice none 0 0)) (.tmp 3) 34 rfl w.heap.size 3 (.int .i64 0) 1 8 Tryz.underlying34 info_int rfl (by decide) (.slice none 0 0) 0 [] (by simp [Act.eval]) (own_nil _ _ _ _) ⟨g, 0, none⟩ xs.length c (xs.map encI) (by simp [Act.eval]) (by simp) (own_news hown rfl) (encs_cell _ (fun _ => rfl) _) (by omega) (by decide) (Nat.le_refl _) ?_; intro v1 w1 hown1 hg1)
    go_wp2
    go_ret
    rw [Nat.zero_add, List.nil_append] at hown1
    exact ⟨_, rfl, hown1, below_of_grown hg1 (Nat.le_refl _) (by simp [Value.ownBlock])⟩

theorem take_eq_snoc {α : Type} {xs ys : List α} {k : Nat} {x y : α} (h : xs.take k = ys.take k) (hx : xs[k]? = some x) (hy : ys[k]? = some y) (e : x = y) : xs.take (k + 1) = ys.take (k + 1) := by
  rw [List.take_add_one, List.take_add_one, h, hx, hy, e]

set_option maxRecDepth 100000 in
set_option maxHeartbeats 1000000 in
theorem sameInts_any (a b : Value) (xs ys : List Int) (w : World) (hxl : xs.length ≤ 1000000000) (ha : RowI w a xs) (hb : RowI w b ys) :
    Calls Tryz.prog 13 #[a, b] w fun e w' => e = .returned (.bool (decide (xs = ys))) ∧ ∃ n, w' = w.drewN n := by
  obtain ⟨Ba, ha⟩ := ha
  obtain ⟨Bb, hb⟩ := hb
  by_cases hl : xs.length = ys.length
  · rw [← hl] at hb
    by_cases hz : xs.length = 0
    · obtain rfl : xs = [] := List.eq_nil_of_length_eq_zero hz
      obtain rfl : ys = [] := List.eq_nil_of_length_eq_zero (by rw [← hl]; rfl)
      obtain ⟨A1, c1, rfl⟩ := own_slice ha
      obtain ⟨A2, c2, rfl⟩ := own_slice hb
      clear ha hb
      simp only [List.length_nil]
      go_enter Tryz.func13, Tryz.ntmps13
      go_wp2
      go_loopw [5] (fun j wr => j = .int .i64 0 ∧ wr = w) (fun j _ => 0)
      case atStart => exact ⟨rfl, rfl⟩
      case round =>
        obtain ⟨rfl, rfl⟩ := hrel
        go_wp2
        go_ret
        exact ⟨by simp, 0, rfl⟩
    · obtain ⟨g1, c1, rfl⟩ := own_pos ha (by omega)
      obtain ⟨g2, c2, rfl⟩ := own_pos hb (by omega)
      obtain ⟨n, hn⟩ : ∃ n, xs.length = n := ⟨_, rfl⟩
      rw [hn] at ha hb ⊢
      have HA := Lib.hid ha
      have HB := Lib.hid hb
      have HL := Lib.hid hl
      have HN := Lib.hid hn
      have hnl : n ≤ 1000000000 := by omega
      clear ha hb hl hxl hn
      go_enter Tryz.func13, Tryz.ntmps13
      go_wp2
      go_loopw [5] (fun j wr => ∃ k m : Nat, k ≤ n ∧ j = .int .i64 (k : Int) ∧ Hid (xs.take k = ys.take k) ∧ wr = w.drewN m) (fun j _ => n - (intOf j).toNat)
      case atStart => exact ⟨0, 0, by omega, rfl, Lib.hid (by simp), rfl⟩
      case round =>
        obtain ⟨k, m, hk, rfl, HT, rfl⟩ := hrel
        by_cases hlt : k < n
        · obtain ⟨x, hx⟩ : ∃ x : Int, xs[k]? = some x := ⟨_, List.getElem?_eq_getElem (by rw [HN.out]; exact hlt)⟩
          obtain ⟨y, hy⟩ : ∃ y : Int, ys[k]? = some y := ⟨_, List.getElem?_eq_getElem (by rw [← HL.out, HN.out]; exact hlt)⟩
          have hc1 := World.ownsRow.cellAt HA.out k (by omega)
          have hc2 := World.ownsRow.cellAt HB.out k (by omega)
          rw [List.getElem?_map, hx] at hc1
          rw [List.getElem?_map, hy] at hc2
          simp only [Option.map_some] at hc1 hc2
          have HX := Lib.hid hx
          have HY := Lib.hid hy
          clear hx hy
          by_cases hxy : x = y
          · go_wp2_with fail
            go_quiet (fail)
            go_wp2
            refine ⟨⟨k + 1, m + nq, by omega, by go_num, Lib.hid (take_eq_snoc HT.out HX.out HY.out hxy), by simp⟩, by simp [intOf]; omega⟩
          · have hq : (x == y) = false := by simp [hxy]
            go_wp2_with fail
            go_quiet (fail)
            go_wp2
            go_ret
            have hne : xs ≠ ys := fun e => hxy (by have h1 := HX.out; have h2 := HY.out; rw [e, h2] at h1; exact (Option.some.inj h1).symm)
            exact ⟨by simp [hne], m + nq, by simp⟩
        · obtain rfl : k = n := by omega
          go_wp2
          go_ret
          have he : xs = ys := by
            have h := HT.out
            rw [List.take_of_length_le (by rw [HN.out]; exact Nat.le_refl _), List.take_of_length_le (by rw [← HL.out, HN.out]; exact Nat.le_refl _)] at h
            exact h
          exact ⟨by simp [he], _, rfl⟩
  · have hne : xs ≠ ys := fun e => hl (by rw [e])
    have hd : decide (xs = ys) = false := by simp [hne]
    rw [hd]
    obtain ⟨A1, c1, rfl⟩ := own_slice ha
    obtain ⟨A2, c2, rfl⟩ := own_slice hb
    obtain ⟨n1, hn1⟩ : ∃ n, xs.length = n := ⟨_, rfl⟩
    obtain ⟨n2, hn2⟩ : ∃ n, ys.length = n := ⟨_, rfl⟩
    rw [hn1, hn2] at hl
    rw [hn1, hn2]
    clear ha hb hn1 hn2
    go_enter Tryz.func13, Tryz.ntmps13
    go_wp2
    go_ret
    exact ⟨rfl, 0, rfl⟩
end Go.Proofs.YtdmdkkdkmmkalaaGreat
