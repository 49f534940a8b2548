/- The book's lists of whole numbers: still, put. -/
import Derived.Test.YtdmdkkdkmmkalaaGreatBkI
namespace Go.Proofs.YtdmdkkdkmmkalaaGreat
open Go.RowKit

abbrev nilS : Value := .slice none 0 0
abbrev bookI (V V' : Value) : Array Value := #[nilS, nilS, V, V', nilS, nilS, nilS, nilS, nilS, nilS, nilS, nilS, nilS, nilS]
structure IntsIn (w : World) (g : Nat) (V V' : Value) (ls was : List Value) (xss : List (List Int)) : Prop where
  book : Blk w g 32 (bookI V V')
  rowV : w.ownsRow (g + 1) 34 1 V ls.length ls
  rowW : w.ownsRow (g + 1) 34 1 V' was.length was
  keptL : Kept w (g + 1) 3 encI ls xss
  keptW : Kept w (g + 1) 3 encI was xss
  apart : ∀ k, V.ownBlock = some k → V'.ownBlock ≠ some k
  few : ls.length ≤ 250
  short : ∀ xs ∈ xss, xs.length ≤ 1000000

theorem rowI_drewN {w : World} {v : Value} {xs : List Int} (h : RowI w v xs) (n : Nat) : RowI (w.drewN n) v xs := by
  obtain ⟨B, h⟩ := h
  exact ⟨B, own_below h ⟨rfl, rfl, rfl, Nat.le_refl _, fun _ _ => rfl⟩⟩

theorem IntsIn.below {w w1 : World} {g : Nat} {V V' : Value} {ls was : List Value} {xss : List (List Int)} (h : IntsIn w g V V' ls was xss) (hb : Below w.heap.size w w1) : IntsIn w1 g V V' ls was xss :=
  ⟨Blk.below h.book hb, own_below h.rowV hb, own_below h.rowW hb, h.keptL.below hb, h.keptW.below hb, h.apart, h.few, h.short⟩
theorem below_drewN_self (w : World) (m : Nat) : Below w.heap.size w (w.drewN m) := ⟨rfl, rfl, rfl, Nat.le_refl _, fun _ _ => rfl⟩
/-- What the walk wants of a book, at place k. -/
theorem IntsIn.at_ {w : World} {g n : Nat} {V V' : Value} {ls was : List Value} {xss : List (List Int)} (h : IntsIn w g V V' ls was xss) (hn : ls.length = n) (k : Nat) (hk : k < n) :
    ∃ g1 c1 g2 c2 a b xs, V = .slice (some ⟨g1, 0, none⟩) n c1 ∧ V' = .slice (some ⟨g2, 0, none⟩) n c2 ∧ w.cell? ⟨g1, k, none⟩ = some a ∧ w.cell? ⟨g2, k, none⟩ = some b ∧ xss[k]? = some xs ∧ ls[k]? = some a ∧ was[k]? = some b ∧
      w.ownsRow (g + 1) 3 1 a xs.length (xs.map encI) ∧ w.ownsRow (g + 1) 3 1 b xs.length (xs.map encI) ∧ xs.length ≤ 1000000 := by
  have hwas : was.length = n := by rw [h.keptW.len, ← h.keptL.len, hn]
  obtain ⟨a, xs, ha, hx, hoa⟩ := h.keptL.get k (by omega)
  obtain ⟨b, ys, hb, hy, hob⟩ := h.keptW.get k (by omega)
  rw [hx] at hy
  cases hy
  have hV := h.rowV
  have hW := h.rowW
  rw [hn] at hV
  rw [hwas] at hW
  obtain ⟨g1, d1, e1⟩ := own_pos hV (by omega)
  obtain ⟨g2, d2, e2⟩ := own_pos hW (by omega)
  subst e1
  subst e2
  have hc1 := World.ownsRow.cellAt hV k (by omega)
  have hc2 := World.ownsRow.cellAt hW k (by omega)
  rw [ha] at hc1
  rw [hb] at hc2
  exact ⟨g1, d1, g2, d2, a, b, xs, rfl, rfl, hc1, hc2, hx, ha, hb, hoa, hob, h.short xs (List.mem_of_getElem? hx)⟩
theorem own_form {w : World} {B : Nat} {e : TypeId} {n : Nat} {v : Value} {xs : List Value} (h : w.ownsRow B e 1 v n xs) : ∃ A c, v = .slice A n c := own_slice h

set_option maxRecDepth 100000 in
set_option maxHeartbeats 1000000 in
theorem stillInts_any {w : World} {g : Nat} {V V' : Value} {ls was : List Value} {xss : List (List Int)} (h : IntsIn w g V V' ls was xss) :
    Calls Tryz.prog 24 #[.pointer (some ⟨g, 0, none⟩)] w fun e w' => e = .returned (.bool true) ∧ ∃ n, w' = w.drewN n := by
  obtain ⟨n, hn⟩ : ∃ n, ls.length = n := ⟨_, rfl⟩
  have hn250 := h.few
  rw [hn] at hn250
  have H := Lib.hid h
  obtain ⟨A1, c1, e1⟩ := own_form h.rowV
  rw [hn] at e1
  subst e1
  have HN := Lib.hid hn
  clear h hn
  go_enter Tryz.func24, Tryz.ntmps24
  go_wp2
  go_loopw [3] (fun j wr => ∃ k m : Nat, k ≤ n ∧ j = .int .i64 (k : Int) ∧ Hid (wr = w.drewN m)) (fun j _ => n - (intOf j).toNat)
  case atStart => exact ⟨0, 0, by omega, rfl, Lib.hid rfl⟩
  case round =>
    obtain ⟨k, m, hk, rfl, HM⟩ := hrel
    have h := H.out.below (below_drewN_self w m)
    rw [← HM.out] at h
    have hb2 : wr.cell? ⟨g, 2, none⟩ = some (.slice A1 n c1) := Blk.cell h.book 2
    by_cases hlt : k < n
    · obtain ⟨g1, d1, g2, d2, a, b, xs, e1, rfl, hc1, hc2, -, -, -, hoa, hob, hsh⟩ := h.at_ HN.out k hlt
      cases e1
      have hb3 : wr.cell? ⟨g, 3, none⟩ = some (.slice (some ⟨g2, 0, none⟩) n d2) := Blk.cell h.book 3
      have hs : ∀ m, Calls Tryz.prog 13 #[a, b] (wr.drewN m) fun e w' => e = .returned (.bool true) ∧ ∃ n, w' = (wr.drewN m).drewN n := fun m => by
        have := sameInts_any a b xs xs (wr.drewN m) (by omega) (rowI_drewN ⟨_, hoa⟩ m) (rowI_drewN ⟨_, hob⟩ m)
        simpa using this
      obtain ⟨B1, q1, r1, rfl⟩ : ∃ A n c, a = .slice A n c := by obtain ⟨A, c, e⟩ := own_slice hoa; exact ⟨_, _, _, e⟩
      obtain ⟨B2, q2, r2, rfl⟩ : ∃ A n c, b = .slice A n c := by obtain ⟨A, c, e⟩ := own_slice hob; exact ⟨_, _, _, e⟩
      have HS2 := Lib.hid hs
      clear hs hoa hob hsh h
      go_wp2_with fail
      go_quiet ((go_at_call 13; exact Calls.quiet_of (HS2.out _)))
      go_wp2
      exact ⟨⟨k + 1, m + nq, by omega, by go_num, by rw [HM.out]; simp [Hid]⟩, by simp [intOf]; omega⟩
    · obtain rfl : k = n := by omega
      clear h
      go_wp2
      go_ret
      exact ⟨rfl, m, HM.out⟩
end Go.Proofs.YtdmdkkdkmmkalaaGreat
