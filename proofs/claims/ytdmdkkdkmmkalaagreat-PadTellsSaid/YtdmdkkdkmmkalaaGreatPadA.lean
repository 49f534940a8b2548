/- Package pad. -/
import Derived.Test.YtdmdkkdkmmkalaaGreatOnce
import Derived.Test.YtdmdkkdkmmkalaaGreatOwn
import Derived.Test.YtdmdkkdkmmkalaaGreatOct
namespace Go.Proofs.YtdmdkkdkmmkalaaGreat
open Go.RowKit Go.MuLone

def sizesL : List Nat := [32, 128, 512, 2048]
def intVals (l : List Nat) : List Value := l.map fun x : Nat => Value.int .i64 (x : Int)

theorem sizes_snoc (k : Nat) (h : k < 4) : intVals (sizesL.take (k + 1)) = intVals (sizesL.take k) ++ [.int .i64 ((32 * 4 ^ k : Nat) : Int)] := by
  obtain rfl | rfl | rfl | rfl : k = 0 ∨ k = 1 ∨ k = 2 ∨ k = 3 := by omega
  all_goals rfl
theorem info_int : (Tryz.prog.info? 3).map (fun i => (i.zero, i.size, i.bytes)) = some (some (.int .i64 0), 1, 8) := by kernel_rfl

set_option maxRecDepth 100000 in
set_option maxHeartbeats 1000000 in
theorem sizesFn (B b p : Nat) (w : World) (hp : p < w.heap.size) (hB : B ≤ b)
    (hpl : w.cell? ⟨p, 0, none⟩ = some (.pointer (some ⟨b, 0, none⟩)))
    (hb : Blk w b 56 #[.int .u32 0, .int .i32 1, .int .u32 0, .slice none 0 0]) :
    Calls Tryz.prog 52 #[.pointer (some ⟨p, 0, none⟩)] w fun e w' => e = .returned (.tuple #[]) ∧
      ∃ v, Blk w' b 56 #[.int .u32 0, .int .i32 1, .int .u32 0, v] ∧ w'.ownsRow w.heap.size 3 1 v 4 (intVals sizesL) ∧ Below B w w' ∧ w'.cell? ⟨p, 0, none⟩ = some (.pointer (some ⟨b, 0, none⟩)) := by
  have hbl := Blk.lt hb
  go_enter Tryz.func52, Tryz.ntmps52
  go_wp2
  go_loopw [1] (fun i wr => ∃ (k : Nat) (v : Value), k ≤ 4 ∧ i = .int .i64 ((32 * 4 ^ k : Nat) : Int) ∧ Blk wr b 56 #[.int .u32 0, .int .i32 1, .int .u32 0, v] ∧ wr.ownsRow w.heap.size 3 1 v k (intVals (sizesL.take k)) ∧ wr.cell? ⟨p, 0, none⟩ = some (.pointer (some ⟨b, 0, none⟩)) ∧ w.heap.size ≤ wr.heap.size ∧ Below B w wr) (fun i _ => 32 * 4 ^ 4 - (intOf i).toNat)
  case atStart => exact ⟨0, _, by omega, rfl, hb, own_nil _ _ _ _, hpl, Nat.le_refl _, Below.refl _ _⟩
  case round =>
    obtain ⟨k, v, hk, rfl, hblk, hown, hp1, hsz, hbel⟩ := hrel
    obtain ⟨A, c, rfl⟩ := own_slice hown
    have hbw : b < wr.heap.size := Blk.lt hblk
    have hc3 := Blk.cell hblk 3
    have hf3 := Blk.free hblk 3
    simp only [List.getElem?_toArray, List.getElem?_cons_succ, List.getElem?_cons_zero] at hc3
    have hlt0 : ¬ (k < 4) ∨ k < 4 := by omega
    by_cases hlt : k < 4
    · have e1 : ((32 * 4 ^ k : Nat) : Int) * 4 = ((32 * 4 ^ (k + 1) : Nat) : Int) := by rw [Nat.pow_succ]; omega
      have hle : 32 * 4 ^ k ≤ 2048 := by
        have : 4 ^ k ≤ 4 ^ 3 := Nat.pow_le_pow_right (by omega) (by omega)
        omega
      obtain ⟨n, hn⟩ : ∃ n : Nat, 32 * 4 ^ k = n := ⟨_, rfl⟩
      rw [hn] at e1 hle
      have hne2 : some b ≠ (Value.slice A k c).ownBlock := fun e => by have := own_base hown b e.symm; omega
      have HNE := Lib.hid hne2
      have hnp2 : some p ≠ (Value.slice A k c).ownBlock := fun e => by have := own_base hown p e.symm; omega
      have HNP := Lib.hid hnp2
      clear hnp2
      clear hne2
      have HN := Lib.hid hn
      have HE := Lib.hid e1
      clear e1
      rw [hn]
      clear hn hc3 hf3
      have hc3 : wr.cell? ⟨b, 3, none⟩ = some (.slice A k c) := Blk.cell hblk 3
      have hf3 : wr.frozen? ⟨b, 3, none⟩ = false := Blk.free hblk 3
      have hp2 : (wr.alloc (.cells #[.int .i64 (n : Int)] 3)).cell? ⟨p, 0, none⟩ = some (.pointer (some ⟨b, 0, none⟩)) := by rw [World.cell?_alloc_past _ _ _ (by show p < _; omega)]; exact hp1
      have hc2 : (wr.alloc (.cells #[.int .i64 (n : Int)] 3)).cell? ⟨b, 3, none⟩ = some (.slice A k c) := by rw [World.cell?_alloc_past _ _ _ (by exact hbw)]; exact hc3
      go_wp2
      go_region_law (refine step_append_own rfl (.tmp 14) (.tmp 16) 34 rfl w.heap.size 3 (.int .i64 0) 1 8 Tryz.underlying34 info_int rfl (by decide) (.slice A k c) k _ (by simp [Act.eval]) (by first | exact hown.drew.alloc _ | exact hown.alloc _) ⟨wr.heap.size, 0, none⟩ 1 1 [.int .i64 n] (by simp [Act.eval]) rfl (by intro j u hj; match j, hj with | 0, hj => simp at hj; subst hj; simp [Addr.add]) (by intro u hu; simp at hu; subst hu; rfl) (by omega) (by decide) (by simp; omega) ?_; intro v1 w1 hown1 hg1; obtain ⟨A1, c1, rfl⟩ := own_slice hown1; have hb1 := blk_grown (Blk.drew (Blk.alloc hblk _)) hg1 HNE.out; have hc1 : w1.cell? ⟨b, 3, none⟩ = some (.slice A k c) := Blk.cell hb1 3; have hf1 : w1.frozen? ⟨b, 3, none⟩ = false := Blk.free hb1 3; have hq1 : w1.cell? ⟨p, 0, none⟩ = some (.pointer (some ⟨b, 0, none⟩)) := World.grownBy.cell hg1 hp2 HNP.out)
      all_goals
        go_wp2
        have hbel1 : Below B w w1 := ((hbel.alloc (by omega) _).drew).grown hg1 (Nat.le_trans hB (by simp; omega)) (fun g hg => by have := own_base hown g hg; omega)
        have hs1 : wr.heap.size ≤ w1.heap.size := by have := hg1.size; simp at this <;> omega
        have hn0 : 0 < n := by rw [← HN.out]; exact Nat.mul_pos (by omega) (Nat.pow_pos (by omega))
        have ho1 : (Value.slice A1 (k + 1) c1).ownBlock ≠ some (⟨b, 3, none⟩ : Addr).block := fun e => by have := own_base hown1 b e; omega
        refine ⟨⟨k + 1, .slice A1 (k + 1) c1, by omega, by rw [HE.out], Blk.set hb1 3 _, ?_, ?_, ?_, hbel1.setCell hB _⟩, ?_⟩
        · rw [sizes_snoc k hlt, HN.out]; exact ownsRow_setCell_other hown1 ho1 _
        · exact (World.cell?_setCell_other _ ⟨b, 3, none⟩ ⟨p, 0, none⟩ _ (by simp)).trans hq1
        · rw [World.size_setCell]; omega
        · simp only [intOf]; omega
    · obtain rfl : k = 4 := by omega
      clear hlt0 hlt
      have hc3 : wr.cell? ⟨b, 3, none⟩ = some (.slice A 4 c) := Blk.cell hblk 3
      go_wp2
      go_end0
      exact ⟨rfl, _, hblk, hown, hbel, hp1⟩
end Go.Proofs.YtdmdkkdkmmkalaaGreat
