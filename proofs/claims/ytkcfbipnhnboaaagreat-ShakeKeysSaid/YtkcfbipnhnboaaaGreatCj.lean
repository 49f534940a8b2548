/- The reference's Sum. The reference's Mac, for keys of no more than a block. The reference's Expand, Extract, Key, Session, Proof, Finish, Keys. -/
import Derived.Test.YtkcfbipnhnboaaaGreatCi
import Derived.Deep.RegionHeld3
import Derived.Deep.DeepCutAuto
import Derived.Sort.AtCall

namespace Go.Proofs.YtkcfbipnhnboaaaGreat
open Go.RowKit

theorem zeroB_succ (n : Nat) : zeroB n ++ (⟨#[0]⟩ : ByteArray) = zeroB (n + 1) := by
  apply ByteArray.ext
  apply Array.ext'
  simp [zeroB, strOf, List.replicate_succ']
theorem zeroB_size (n : Nat) : (zeroB n).size = n := by simp [zeroB, strOf_size]

def EightAt (W : World) (vb : Nat) (x : W8) : Prop := ∀ i, i < 8 → W.cell? ⟨vb, i, none⟩ = some (.int .u32 (x.list.getD i 0 : Nat))
theorem EightAt.of {W : World} {vb : Nat} {t : TypeId} {x : W8} (h : Blk W vb t (u32Cells x.list)) : EightAt W vb x := fun i hi => (Blk.cell h i).trans (u32Cells_get _ _ (by rw [x.list_length]; exact hi))
theorem EightAt.below {W W' : World} {vb : Nat} {x : W8} (h : EightAt W vb x) (hl : vb < W.heap.size) (hb : Below W.heap.size W W') : EightAt W' vb x := fun i hi => (hb.cell (p := ⟨vb, i, none⟩) hl).trans (h i hi)
theorem news8 {W : World} {vb : Nat} {t : TypeId} {x : W8} (h : Blk W vb t (u32Cells x.list)) : ∀ j u, (u32Cells x.list).toList[j]? = some u → W.cell? ((⟨vb, 0, none⟩ : Addr).add j) = some u := by
  intro j u hj
  rw [Go.WideShapes.add_plain]
  rw [Nat.zero_add, Blk.cell h j, ← Array.getElem?_toList, hj]
theorem ones8 (x : W8) : ∀ u ∈ (u32Cells x.list).toList, u.oneCell' = true := by
  intro u hu
  simp only [u32Cells, List.mem_map] at hu
  obtain ⟨a, _, rfl⟩ := hu
  rfl
theorem len8 (x : W8) : (u32Cells x.list).toList.length = 8 * 1 := rfl
theorem shaMix_comm (s : W8) (b : ByteArray) : s.add (shaTo s (schedTo b 64) 64) = shaMix s b := by
  simp only [shaMix, W8.add, Nat.add_comm]

theorem info_u32 : (Tryz.prog.info? 113).map (fun i => (i.zero, i.size, i.bytes)) = some (some (.int .u32 0), 1, 4) := by kernel_rfl
theorem eight_of_own {W : World} {A : Nat} {e : TypeId} {v : Value} {s : W8} (h : W.ownsRow A e 1 v 8 (u32Cells s.list).toList) : ∃ g cap, v = .slice (some ⟨g, 0, none⟩) 8 cap ∧ A ≤ g ∧ g < W.heap.size ∧ EightAt W g s ∧ 8 ≤ cap := by
  rcases h.2 with ⟨_, h0⟩ | ⟨g, cap, cur, rfl, hA, hg, hc, _, _, ht⟩
  · exact absurd h0 (by decide)
  · refine ⟨g, cap, rfl, hA, Blk.lt hg, ?_, hc⟩
    intro i hi
    rw [Lib.cell_of_heap hg]
    have e1 : cur[i]? = (cur.toList.take (8 * 1))[i]? := by rw [List.getElem?_take_of_lt (by omega), Array.getElem?_toList]
    rw [e1, ht, Array.getElem?_toList, u32Cells_get _ _ (by rw [s.list_length]; exact hi)]

def wordsB (y : W8) (k : Nat) : ByteArray := ⟨(wordsL y k).toArray⟩
theorem wordsB_succ (y : W8) (k : Nat) (h : k < 8) : wordsB y k ++ bePut (y.list.getD k 0) 4 = wordsB y (k + 1) := by
  have hl : k < y.list.length := h
  apply ByteArray.ext
  apply Array.ext'
  simp only [wordsB, ByteArray.data_append, Array.toList_append, wordsL]
  rw [List.take_add_one, List.getElem?_eq_getElem hl, Option.toList_some, List.flatMap_append]
  simp [List.getD_eq_getElem?_getD, List.getElem?_eq_getElem hl]
theorem wordsB_size (y : W8) (k : Nat) (h : k ≤ 8) : (wordsB y k).size ≤ 100 := by
  have := wordsL_len y k h
  rw [Lib.byteCells_length] at this
  show (wordsL y k).toArray.size ≤ 100
  rw [List.size_toArray]
  exact this
theorem wordsB_all (y : W8) : wordsB y 8 = y.bytes := wordsL_bytes y
theorem eight_set_far {W : World} {vb hb j : Nat} {x : W8} (h : EightAt W vb x) (hne : vb ≠ hb) (v : Value) : EightAt (W.setCell ⟨hb, j, none⟩ v).drew vb x := fun i hi => by
  have e : (W.setCell ⟨hb, j, none⟩ v).drew.heap[vb]? = W.heap[vb]? := Below.heap_setCell W ⟨hb, j, none⟩ v vb hne
  exact (World.cell?_of_block (w := W) (a := ⟨vb, i, none⟩) e).trans (h i hi)

theorem r1_int {x : W8} {k w : Nat} (he : x.e < 4294967296) (hf : x.f < 4294967296) (hg : x.g < 4294967296) :
    (((x.h : Int) + bits .xor .u32 (bits .xor .u32 (rotr x.e 6 : Nat) (rotr x.e 11 : Nat)) (rotr x.e 25 : Nat) + bits .xor .u32 (bits .and .u32 (x.e : Int) (x.f : Int)) (bits .and .u32 (4294967295 - (x.e : Int)) (x.g : Int)) + (k : Int)) % 4294967296 + (w : Int)) % 4294967296 = ((shaT1 x k w : Nat) : Int) := by
  have e1 : (4294967295 - (x.e : Int)) = ((4294967295 - x.e : Nat) : Int) := by omega
  rw [e1, u32_and_nat _ _ he hf, u32_and_nat _ _ (by omega) hg, u32_xor_n (and32 hf) (and32 hg), u32_xor_n (rotr_lt _ _ he) (rotr_lt _ _ he), u32_xor_n (xor32 (rotr_lt _ _ he) (rotr_lt _ _ he)) (rotr_lt _ _ he), shaT1, turned3]
  omega
theorem r2_int {x : W8} (ha : x.a < 4294967296) (hb : x.b < 4294967296) (hc : x.c < 4294967296) :
    (bits .xor .u32 (bits .xor .u32 (rotr x.a 2 : Nat) (rotr x.a 13 : Nat)) (rotr x.a 22 : Nat) + bits .xor .u32 (bits .xor .u32 (bits .and .u32 (x.a : Int) (x.b : Int)) (bits .and .u32 (x.a : Int) (x.c : Int))) (bits .and .u32 (x.b : Int) (x.c : Int))) % 4294967296 = ((shaT2 x : Nat) : Int) := by
  rw [maj_int ha hb hc, u32_xor_n (rotr_lt _ _ ha) (rotr_lt _ _ ha), u32_xor_n (xor32 (rotr_lt _ _ ha) (rotr_lt _ _ ha)) (rotr_lt _ _ ha), shaT2, turned3]
  omega

set_option maxRecDepth 100000 in
set_option maxHeartbeats 16000000 in
theorem refSum_any (b : ByteArray) (w : World) (hs : b.size ≤ 100000000) : Calls Tryz.prog 57 #[.string b] w fun e w' => e = .returned (.string (sha256 b)) ∧ Below w.heap.size w w' := by
  have hz64 := zero64
  go_enter Tryz.func57, Tryz.ntmps57
  go_wp2
  obtain ⟨w1, hw1⟩ : ∃ w1, (w.alloc (.cells (u32Cells kTab) 113)).alloc (.cells (u32Cells hFirst.list) 113) = w1 := ⟨_, rfl⟩
  have hK : Blk w1 w.heap.size 113 (u32Cells kTab) := by rw [← hw1]; exact Blk.alloc (Blk.new w _) _
  have hH : Blk w1 (w.heap.size + 1) 113 (u32Cells hFirst.list) := by rw [← hw1]; exact Blk.new_at _ (by simp)
  have hB : Below w.heap.size w w1 := by rw [← hw1]; exact ((Below.refl _ _).alloc (Nat.le_refl _) _).alloc (by simp) _
  have hZ : w1.heap.size = w.heap.size + 2 := by rw [← hw1]; simp
  refine (show ∀ W : World, W = w1 → Code.wp _ _ _ _ W from ?_) _ (by exact hw1)
  clear hw1
  rintro W rfl
  have H1 := Box.mk (And.intro hK (And.intro hH (And.intro hB hZ)))
  clear hK hH hB hZ
  go_loop [5] (fun x => ∃ n : Nat, n ≤ shaZeros b.size ∧ x = .string (b ++ ⟨#[128]⟩ ++ zeroB n)) (fun x => shaZeros b.size + 100 + b.size - strSize x)
  case atStart => exact ⟨0, Nat.zero_le _, by congr 1; apply ByteArray.ext; simp [zeroB, strOf]⟩
  case round =>
    obtain ⟨n, hn, rfl⟩ := hrel
    have hsz : (b ++ ⟨#[128]⟩ ++ zeroB n).size = b.size + 1 + n := by rw [ByteArray.size_append, ByteArray.size_append, zeroB_size]; rfl
    have hz : n ≤ (119 - b.size % 64) % 64 := hn
    by_cases hlt : n < shaZeros b.size
    · have hl : n < (119 - b.size % 64) % 64 := hlt
      have hne : ((((b.size : Int) + 1 + n) % 64) != 56) = true := by simp; omega
      have HN := Box.mk (And.intro hsz hlt)
      obtain ⟨m, hm⟩ : ∃ m, b ++ ⟨#[128]⟩ ++ zeroB n = m := ⟨_, rfl⟩
      rw [hm] at HN ⊢
      have hmz : (m.size : Int) = (b.size : Int) + 1 + n := by have := HN.out.1; omega
      have hms : m.size ≤ 200000000 := by have := HN.out.1; omega
      rw [← hmz] at hne
      clear hsz hlt hl hmz
      go_wp2
      have e1 : m ++ ⟨#[0]⟩ = b ++ ⟨#[128]⟩ ++ zeroB (n + 1) := by rw [← hm, ByteArray.append_assoc, zeroB_succ]
      have e2 : (m ++ ⟨#[0]⟩).size = m.size + 1 := by rw [ByteArray.size_append]; rfl
      refine ⟨⟨n + 1, HN.out.2, by rw [e1]⟩, ?_⟩
      have h2 := HN.out.1
      have h3 := HN.out.2
      have h4 : shaZeros b.size ≤ 63 := by unfold shaZeros; omega
      show shaZeros b.size + 100 + b.size - (m ++ ⟨#[0]⟩).size < shaZeros b.size + 100 + b.size - m.size
      omega
    · have hez : n = shaZeros b.size := by omega
      subst hez
      have hne : ((((b.size : Int) + 1 + (shaZeros b.size : Nat)) % 64) != 56) = false := by unfold shaZeros; simp; omega
      obtain ⟨m, hm⟩ : ∃ m, b ++ ⟨#[128]⟩ ++ zeroB (shaZeros b.size) = m := ⟨_, rfl⟩
      rw [hm] at hsz ⊢
      have hmz : (m.size : Int) = (b.size : Int) + 1 + (shaZeros b.size : Nat) := by omega
      have hms : m.size ≤ 200000000 := by omega
      rw [← hmz] at hne
      have HU : U64 (b.size * 8) := by unfold U64; omega
      have hmu : IntKind.u64.wrap ((b.size : Int) * 8) = ((b.size * 8 : Nat) : Int) := by rw [IntKind.wrap_u64]; omega
      have HP : Box (m ++ bePut (b.size * 8) 8 = shaPadded b) := ⟨by rw [← hm, shaPadded, ByteArray.append_assoc, ByteArray.append_assoc, ByteArray.append_assoc]⟩
      clear hm hsz hlt hz hmz hn
      have hp8 : (bePut (b.size * 8) 8).size = 8 := bePut_size _ _
      have hps : (shaPadded b).size = m.size + 8 := by rw [← HP.out, ByteArray.size_append, hp8]
      have hmd : m.size % 64 = 56 := by simp at hne; omega
      go_wp2_with fail
      refine (refPutBig_any _ 8 _ HU (by decide) (by decide)).mono ?_
      rintro e w2 ⟨rfl, hb2⟩
      have hK2 := Blk.below H1.out.1 hb2
      have hH2 := Blk.below H1.out.2.1 hb2
      have hB2 := H1.out.2.2.1.trans (hb2.mono H1.out.2.2.1.size)
      obtain ⟨hb, hhb⟩ : ∃ hb, w.heap.size + 1 = hb := ⟨_, rfl⟩
      have hZ2 : hb + 1 ≤ w2.heap.size := by have := hb2.size; have := H1.out.2.2.2; omega
      rw [hhb] at hH2 ⊢
      have H2 := Box.mk (And.intro hK2 (And.intro hH2 (And.intro hB2 (And.intro hZ2 hhb))))
      clear hK2 hH2 hB2 H1 hhb hb2 hZ2
      go_wp2
      rw [HP.out]
      obtain ⟨p, hp⟩ : ∃ p, shaPadded b = p := ⟨_, rfl⟩
      rw [hp] at hps ⊢
      have hpm : p.size % 64 = 0 := by omega
      have hpz : p.size ≤ 200000008 := by omega
      have HPP := Box.mk hp
      clear hp hps hmd hne HP hmu HU hp8 hms
      go_loopw [6] (fun i wr => ∃ q a : Nat, Box (a = 64 * q) ∧ a ≤ p.size ∧ i = .int .i64 (a : Int) ∧ Blk wr hb 113 (u32Cells (shaBlocks hFirst p q).list) ∧ Blk wr w.heap.size 113 (u32Cells kTab) ∧ Below w.heap.size w wr) (fun i _ => p.size - (intOf i).toNat)
      case atStart => exact ⟨0, 0, ⟨rfl⟩, Nat.zero_le _, rfl, H2.out.2.1, H2.out.1, H2.out.2.2.1⟩
      case round =>
        obtain ⟨q, a, HA, hq, rfl, hblk, hkb, hbel⟩ := hrel
        by_cases hlt : a < p.size
        · obtain ⟨s, hs'⟩ : ∃ s, shaBlocks hFirst p q = s := ⟨_, rfl⟩
          have hso := shaBlocks_ok hFirst p hFirst_ok q
          rw [hs'] at hblk hso
          have HQ := Box.mk (And.intro hs' (And.intro hblk (And.intro hkb (And.intro hbel hso))))
          clear hs' hblk hkb hbel hso
          have hlt2 : (a : Int) < (p.size : Int) := by omega
          go_wp2
          obtain ⟨A, hA⟩ : ∃ A, wr.heap.size = A := ⟨_, rfl⟩
          obtain ⟨w3, hw3⟩ : ∃ w3, wr.alloc (.cells (u32Cells zs64) 137) = w3 := ⟨_, rfl⟩
          have hA3 : Blk w3 A 137 (u32Cells zs64) := by rw [← hw3, ← hA]; exact Blk.new wr _
          have hb3 : Below A wr w3 := by rw [← hw3, ← hA]; exact (Below.refl _ _).alloc (Nat.le_refl _) _
          have hAl : A + 1 ≤ w3.heap.size := by rw [← hw3, ← hA]; simp
          have hhA : hb < A := by rw [← hA]; exact Blk.lt HQ.out.2.1
          have hkA : w.heap.size < A := by rw [← hA]; exact Blk.lt HQ.out.2.2.1
          rw [hA]
          try rw [hw3]
          obtain ⟨blk, hbk⟩ : ∃ blk, p.extract a (a + 64) = blk := ⟨_, rfl⟩
          have hbs : blk.size = 64 := by have := HA.out; rw [← hbk, ByteArray.size_extract]; omega
          have H3 := Box.mk (And.intro hA3 (And.intro hb3 (And.intro hbk (And.intro hA hw3))))
          clear hA3 hb3 hw3 hA hbk
          go_loopw [8] (fun i W => ∃ k : Nat, k ≤ 64 ∧ i = .int .i64 (k : Int) ∧ Box (Blk W A 137 (u32Cells (schedPart blk k)) ∧ Below A w3 W)) (fun i _ => 64 - (intOf i).toNat)
          case atStart => exact ⟨0, by omega, rfl, ⟨H3.out.1, Below.refl _ _⟩⟩
          case round =>
            rename_i W4 _
            obtain ⟨t, ht, rfl, HW⟩ := hrel
            by_cases ht64 : t < 64
            · by_cases h16 : t < 16
              · have hblk := HW.out.1
                have hc : wr.cell? ⟨A, t, none⟩ = some (.int .u32 (((schedPart blk t).getD t 0 : Nat) : Int)) := (Blk.cell hblk t).trans (u32Cells_get _ _ (by rw [schedPart_length _ _ ht]; exact ht64))
                have hf : wr.frozen? ⟨A, t, none⟩ = false := Blk.free hblk t
                have hb4 : a + 4 * t + 4 ≤ p.size := by have := HA.out; omega
                have hx4 : (p.extract (a + 4 * t) (a + 4 * t + 4)).size = 4 := by rw [ByteArray.size_extract]; omega
                have hex : p.extract (a + 4 * t) (a + 4 * t + 4) = blk.extract (4 * t) (4 * t + 4) := by
                  rw [← H3.out.2.2.1, ByteArray.extract_extract]; congr 1; omega
                have hnx : schedNext blk (schedTo blk t) = beGet (blk.extract (4 * t) (4 * t + 4)) := by rw [schedNext, schedTo_length, if_pos h16]
                have hnl := schedNext_lt blk (schedTo blk t) hbs
                rw [hnx] at hnl
                obtain ⟨y, hy⟩ : ∃ y, p.extract (a + 4 * t) (a + 4 * t + 4) = y := ⟨_, rfl⟩
                rw [hy] at hx4 hex
                rw [← hex] at hnl hnx
                obtain ⟨v, hv⟩ : ∃ v, beGet y = v := ⟨_, rfl⟩
                rw [hv] at hnl hnx
                have HB : Box (∀ W : World, Calls Tryz.prog 77 #[.string y] W fun e w' => e = .returned (.int .u64 v) ∧ Below W.heap.size W w') := ⟨fun W => by have := refBig_any y W (by omega); rw [hv] at this; exact this⟩
                have HN := Box.mk (And.intro hnx hblk)
                have hT1 : ((a : Int) + 4 * t).toNat = a + 4 * t := by omega
                have hT2 : ((a : Int) + 4 * t + 4).toNat = a + 4 * t + 4 := by omega
                clear hx4 hex hnx hblk hv
                go_wp2_with fail
                try rw [hy]
                refine (HB.out _).mono ?_
                rintro e w4 ⟨rfl, hb4'⟩
                have hc1 : w4.cell? ⟨A, t, none⟩ = some (.int .u32 (((schedPart blk t).getD t 0 : Nat) : Int)) := (hb4'.cell (p := ⟨A, t, none⟩) (Blk.lt HW.out.1)).trans hc
                have hblk4 := Blk.below HN.out.2 hb4'
                have hf1 := Blk.free hblk4 t
                clear hc hf
                have HB4 := Box.mk (And.intro hblk4 hb4')
                clear hblk4 hb4'
                go_wp2
                have hs := Blk.set HB4.out.1 t (.int .u32 (v : Int))
                rw [u32Cells_set, ← HN.out.1, schedPart_succ _ _ ht64, HN.out.1] at hs
                exact ⟨⟨t + 1, by omega, by go_num, Box.mk (And.intro hs ((HW.out.2.trans (HB4.out.2.mono (Nat.le_of_lt (Blk.lt HW.out.1)))).setCell (p := ⟨A, t, none⟩) (Nat.le_refl A) _))⟩, by simp [intOf]; omega⟩
              · have hblk := HW.out.1
                have c15 := (Blk.cell hblk (t - 15)).trans (u32Cells_get _ _ (by rw [schedPart_length _ _ ht]; omega))
                have c2 := (Blk.cell hblk (t - 2)).trans (u32Cells_get _ _ (by rw [schedPart_length _ _ ht]; omega))
                have c16 := (Blk.cell hblk (t - 16)).trans (u32Cells_get _ _ (by rw [schedPart_length _ _ ht]; omega))
                have c7 := (Blk.cell hblk (t - 7)).trans (u32Cells_get _ _ (by rw [schedPart_length _ _ ht]; omega))
                have c0 := (Blk.cell hblk t).trans (u32Cells_get _ _ (by rw [schedPart_length _ _ ht]; omega))
                rw [schedPart_get _ _ _ (by omega)] at c15 c2 c16 c7
                obtain ⟨x15, hx15⟩ : ∃ x, (schedTo blk t).getD (t - 15) 0 = x := ⟨_, rfl⟩
                obtain ⟨x2, hx2⟩ : ∃ x, (schedTo blk t).getD (t - 2) 0 = x := ⟨_, rfl⟩
                obtain ⟨x16, hx16⟩ : ∃ x, (schedTo blk t).getD (t - 16) 0 = x := ⟨_, rfl⟩
                obtain ⟨x7, hx7⟩ : ∃ x, (schedTo blk t).getD (t - 7) 0 = x := ⟨_, rfl⟩
                have l15 := schedTo_lt blk hbs t (t - 15)
                have l2 := schedTo_lt blk hbs t (t - 2)
                rw [hx15] at c15 l15
                rw [hx2] at c2 l2
                rw [hx16] at c16
                rw [hx7] at c7
                have en : schedNext blk (schedTo blk t) = (((x16 + sig0 x15) % 4294967296 + x7) % 4294967296 + sig1 x2) % 4294967296 := by
                  rw [schedNext, schedTo_length, if_neg h16, hx16, hx15, hx7, hx2]
                have HX := Box.mk en
                clear hx15 hx2 hx16 hx7 en
                have hf := Blk.free hblk t
                have HBK := Box.mk hblk
                clear hblk
                have HLa : Box (∀ W : World, Calls Tryz.prog 78 #[.int .u32 (x15 : Int), .int .i64 (-7)] W fun e w' => e = .returned (.int .u32 (rotr x15 7 : Nat)) ∧ W = w') := ⟨fun W => refLeft_neg x15 7 W l15 (by decide) (by decide)⟩
                have HLb : Box (∀ W : World, Calls Tryz.prog 78 #[.int .u32 (x15 : Int), .int .i64 (-18)] W fun e w' => e = .returned (.int .u32 (rotr x15 18 : Nat)) ∧ W = w') := ⟨fun W => refLeft_neg x15 18 W l15 (by decide) (by decide)⟩
                have HLc : Box (∀ W : World, Calls Tryz.prog 78 #[.int .u32 (x2 : Int), .int .i64 (-17)] W fun e w' => e = .returned (.int .u32 (rotr x2 17 : Nat)) ∧ W = w') := ⟨fun W => refLeft_neg x2 17 W l2 (by decide) (by decide)⟩
                have HLd : Box (∀ W : World, Calls Tryz.prog 78 #[.int .u32 (x2 : Int), .int .i64 (-19)] W fun e w' => e = .returned (.int .u32 (rotr x2 19 : Nat)) ∧ W = w') := ⟨fun W => refLeft_neg x2 19 W l2 (by decide) (by decide)⟩
                go_wp2
                go_quiet (fail)
                go_wp2_with fail
                obtain ⟨w2, hw2⟩ : ∃ w2, w2 = wr.drewN nq := ⟨_, rfl⟩
                rw [← hw2]
                have c16 : w2.cell? ⟨A, t - 16, none⟩ = some (.int .u32 (x16 : Int)) := by rw [hw2]; exact c16
                have c7 : w2.cell? ⟨A, t - 7, none⟩ = some (.int .u32 (x7 : Int)) := by rw [hw2]; exact c7
                have c0 : w2.cell? ⟨A, t, none⟩ = some (.int .u32 (((schedPart blk t).getD t 0 : Nat) : Int)) := by rw [hw2]; exact c0
                have hf : w2.frozen? ⟨A, t, none⟩ = false := by rw [hw2]; exact hf
                have hblk2 : Blk w2 A 137 (u32Cells (schedPart blk t)) := by rw [hw2]; exact HBK.out
                have hbel2 : Below A w3 w2 := by rw [hw2]; exact below_drewN HW.out.2 _
                have HB2 := Box.mk (And.intro hblk2 hbel2)
                clear hw2 HBK HW hblk2 hbel2
                refine (HLa.out _).mono ?_
                rintro e w8 ⟨rfl, rfl⟩
                go_wp2_with fail
                refine (HLb.out _).mono ?_
                rintro e w8 ⟨rfl, rfl⟩
                have xr0 := u32_xor_n (rotr_lt x15 7 l15) (rotr_lt x15 18 l15)
                have xr1 := u32_xor_n (rotr_lt x2 17 l2) (rotr_lt x2 19 l2)
                have xs0 := sig0_int l15
                have xs1 := sig1_int l2
                go_wp2_with fail
                refine (HLc.out _).mono ?_
                rintro e w8 ⟨rfl, rfl⟩
                go_wp2_with fail
                refine (HLd.out _).mono ?_
                rintro e w8 ⟨rfl, rfl⟩
                have w16 : IntKind.i64.wrap ((t : Int) - 16) = ((t - 16 : Nat) : Int) := by rw [IntWalk.i64_in _ (by omega)]; omega
                have w7 : IntKind.i64.wrap ((t : Int) - 7) = ((t - 7 : Nat) : Int) := by rw [IntWalk.i64_in _ (by omega)]; omega
                have b16 : ((t - 16 : Nat) : Int) < 64 := by omega
                have b7 : ((t - 7 : Nat) : Int) < 64 := by omega
                go_wp2_with fail
                refine wp_region_still_tail 15 (by kernel_rfl) (by kernel_rfl) ?_
                simp only [List.take_succ_cons, List.take_zero, List.drop_succ_cons, List.drop_zero]
                repeat still_step
                refine wpStill_nil ?_
                go_wp2
                have ev : ((x16 : Int) + (sig0 x15 : Nat) + (x7 : Int) + (sig1 x2 : Nat)) % 4294967296 = ((schedNext blk (schedTo blk t) : Nat) : Int) := by rw [HX.out]; omega
                rw [ev]
                have hs := Blk.set HB2.out.1 t (.int .u32 ((schedNext blk (schedTo blk t) : Nat) : Int))
                rw [u32Cells_set, schedPart_succ _ _ ht64] at hs
                exact ⟨⟨t + 1, by omega, by go_num, Box.mk (And.intro (Blk.drew hs) (HB2.out.2.setCell (p := ⟨A, t, none⟩) (Nat.le_refl A) _).drew)⟩, by simp [intOf]; omega⟩
            · obtain rfl : t = 64 := by omega
              have hfin : schedPart blk 64 = schedTo blk 64 := by simp [schedPart]
              obtain ⟨ws, hws⟩ : ∃ ws, schedTo blk 64 = ws := ⟨_, rfl⟩
              have hwl : ws.length = 64 := by rw [← hws, schedTo_length]
              have hAW : A + 1 ≤ wr.heap.size := Nat.le_trans hAl HW.out.2.size
              have hh : Blk wr hb 113 (u32Cells s.list) := ((HW.out.2.block _ hhA).trans (H3.out.2.1.block _ hhA)).trans HQ.out.2.1
              have hkk : Blk wr w.heap.size 113 (u32Cells kTab) := ((HW.out.2.block _ hkA).trans (H3.out.2.1.block _ hkA)).trans HQ.out.2.2.1
              have hbw : Below w.heap.size w wr := HQ.out.2.2.2.1.trans ((H3.out.2.1.trans HW.out.2).mono (by omega))
              have hbl := HW.out.1
              rw [hfin, hws] at hbl
              have H4 := Box.mk (And.intro hh (And.intro hkk (And.intro hbw (And.intro hbl (And.intro hws hwl)))))
              have hsok := HQ.out.2.2.2.2
              clear hfin hws hwl hh hkk hbw hbl HW ht ht64
              obtain ⟨i0, hi, hz0, hz1, hz2⟩ := info_parts info_u32
              go_wp2_with (refine wpList_append_own _ rfl (.const (.slice none 0 0)) (.tmp 105) 134 rfl (A + 1) 113 i0 (.int .u32 0) 1 4 Tryz.underlying134 hi hz0 hz1 hz2 rfl (by decide) _ 0 [] rfl (own_nil _ _ _ _) ⟨hb, 0, none⟩ 8 8 (u32Cells s.list).toList rfl (len8 s) (news8 H4.out.1) (ones8 s) (by decide) (by decide) hAW ?_)
              intro v5 w5 hown5 hg5 _
              clear hi hz0 hz1 hz2
              obtain ⟨vb, cap, rfl, hvA, hvl, hv8, hc8⟩ := eight_of_own hown5
              have hb5 : Below wr.heap.size wr w5 := (Below.refl _ _).grown hg5 (Nat.le_refl _) (fun k hk => by cases hk)
              have H5 := Box.mk (And.intro hb5 hv8)
              have hAW5 : A + 1 ≤ w5.heap.size := Nat.le_trans hAW hb5.size
              clear hown5 hg5 hb5 hv8
              go_wp2
              go_loopw [13, 14] (fun v i W => ∃ k vb cap : Nat, k ≤ 64 ∧ 8 ≤ cap ∧ v = .slice (some ⟨vb, 0, none⟩) 8 cap ∧ i = .int .i64 (k : Int) ∧ Box (A + 1 ≤ vb ∧ vb < W.heap.size ∧ EightAt W vb (shaTo s ws k) ∧ Below (A + 1) w5 W)) (fun _ i _ => 64 - (intOf i).toNat)
              case atStart => exact ⟨0, vb, cap, by omega, hc8, rfl, rfl, ⟨hvA, hvl, H5.out.2, Below.refl _ _⟩⟩
              case round =>
                rename_i W6 _
                clear hvA hvl hc8
                obtain ⟨k, vb, cap, hk, hc8, rfl, rfl, HV⟩ := hrel
                by_cases hk64 : k < 64
                · obtain ⟨x, hx⟩ : ∃ x, shaTo s ws k = x := ⟨_, rfl⟩
                  have hok := shaTo_ok s ws hsok k
                  rw [hx] at HV hok
                  have c0 : wr.cell? ⟨vb, 0, none⟩ = some (.int .u32 (x.a : Int)) := HV.out.2.2.1 0 (by omega)
                  have c1 : wr.cell? ⟨vb, 1, none⟩ = some (.int .u32 (x.b : Int)) := HV.out.2.2.1 1 (by omega)
                  have c2 : wr.cell? ⟨vb, 2, none⟩ = some (.int .u32 (x.c : Int)) := HV.out.2.2.1 2 (by omega)
                  have c3 : wr.cell? ⟨vb, 3, none⟩ = some (.int .u32 (x.d : Int)) := HV.out.2.2.1 3 (by omega)
                  have c4 : wr.cell? ⟨vb, 4, none⟩ = some (.int .u32 (x.e : Int)) := HV.out.2.2.1 4 (by omega)
                  have c5 : wr.cell? ⟨vb, 5, none⟩ = some (.int .u32 (x.f : Int)) := HV.out.2.2.1 5 (by omega)
                  have c6 : wr.cell? ⟨vb, 6, none⟩ = some (.int .u32 (x.g : Int)) := HV.out.2.2.1 6 (by omega)
                  have c7 : wr.cell? ⟨vb, 7, none⟩ = some (.int .u32 (x.h : Int)) := HV.out.2.2.1 7 (by omega)
                  have hK6 : Blk wr w.heap.size 113 (u32Cells kTab) := (HV.out.2.2.2.block _ (by omega)).trans (Blk.below H4.out.2.1 H5.out.1)
                  have hA6 : Blk wr A 137 (u32Cells ws) := (HV.out.2.2.2.block _ (by omega)).trans (Blk.below H4.out.2.2.2.1 H5.out.1)
                  have ck : wr.cell? ⟨w.heap.size, k, none⟩ = some (.int .u32 (kTab.getD k 0 : Nat)) := (Blk.cell hK6 k).trans (u32Cells_get _ _ hk64)
                  have cw : wr.cell? ⟨A, k, none⟩ = some (.int .u32 (ws.getD k 0 : Nat)) := (Blk.cell hA6 k).trans (u32Cells_get _ _ (by rw [H4.out.2.2.2.2.2]; exact hk64))
                  obtain ⟨kk, hkk⟩ : ∃ v, kTab.getD k 0 = v := ⟨_, rfl⟩
                  obtain ⟨ww, hww⟩ : ∃ v, ws.getD k 0 = v := ⟨_, rfl⟩
                  rw [hkk] at ck
                  rw [hww] at cw
                  have en : shaTo s ws (k + 1) = shaRound x kk ww := by rw [shaTo, hx, hkk, hww]
                  have HE := Box.mk en
                  clear hkk hww hx en hK6 hA6
                  obtain ⟨la, lb, lc, ld, le, lf, lg, lh⟩ := hok
                  have HL1 : Box (∀ W : World, Calls Tryz.prog 78 #[.int .u32 (x.e : Int), .int .i64 (-6)] W fun e w' => e = .returned (.int .u32 (rotr x.e 6 : Nat)) ∧ W = w') := ⟨fun W => refLeft_neg x.e 6 W le (by decide) (by decide)⟩
                  have HL2 : Box (∀ W : World, Calls Tryz.prog 78 #[.int .u32 (x.e : Int), .int .i64 (-11)] W fun e w' => e = .returned (.int .u32 (rotr x.e 11 : Nat)) ∧ W = w') := ⟨fun W => refLeft_neg x.e 11 W le (by decide) (by decide)⟩
                  have HL3 : Box (∀ W : World, Calls Tryz.prog 78 #[.int .u32 (x.e : Int), .int .i64 (-25)] W fun e w' => e = .returned (.int .u32 (rotr x.e 25 : Nat)) ∧ W = w') := ⟨fun W => refLeft_neg x.e 25 W le (by decide) (by decide)⟩
                  have HL4 : Box (∀ W : World, Calls Tryz.prog 78 #[.int .u32 (x.a : Int), .int .i64 (-2)] W fun e w' => e = .returned (.int .u32 (rotr x.a 2 : Nat)) ∧ W = w') := ⟨fun W => refLeft_neg x.a 2 W la (by decide) (by decide)⟩
                  have HL5 : Box (∀ W : World, Calls Tryz.prog 78 #[.int .u32 (x.a : Int), .int .i64 (-13)] W fun e w' => e = .returned (.int .u32 (rotr x.a 13 : Nat)) ∧ W = w') := ⟨fun W => refLeft_neg x.a 13 W la (by decide) (by decide)⟩
                  have HL6 : Box (∀ W : World, Calls Tryz.prog 78 #[.int .u32 (x.a : Int), .int .i64 (-22)] W fun e w' => e = .returned (.int .u32 (rotr x.a 22 : Nat)) ∧ W = w') := ⟨fun W => refLeft_neg x.a 22 W la (by decide) (by decide)⟩
                  have hce : (x.e : Int) ≤ 4294967295 := by omega
                  have HCL := Box.mk (And.intro la (And.intro lb (And.intro lc (And.intro ld (And.intro le (And.intro lf (And.intro lg lh)))))))
                  clear la lb lc ld le lf lg lh
                  go_wp2
                  go_quiet (fail)
                  go_wp2
                  obtain ⟨w7, hw7⟩ : ∃ w7, w7 = wr.drewN nq := ⟨_, rfl⟩
                  rw [← hw7]
                  have c0 : w7.cell? ⟨vb, 0, none⟩ = some (.int .u32 (x.a : Int)) := by rw [hw7]; exact c0
                  have c1 : w7.cell? ⟨vb, 1, none⟩ = some (.int .u32 (x.b : Int)) := by rw [hw7]; exact c1
                  have c2 : w7.cell? ⟨vb, 2, none⟩ = some (.int .u32 (x.c : Int)) := by rw [hw7]; exact c2
                  have c3 : w7.cell? ⟨vb, 3, none⟩ = some (.int .u32 (x.d : Int)) := by rw [hw7]; exact c3
                  have c4 : w7.cell? ⟨vb, 4, none⟩ = some (.int .u32 (x.e : Int)) := by rw [hw7]; exact c4
                  have c5 : w7.cell? ⟨vb, 5, none⟩ = some (.int .u32 (x.f : Int)) := by rw [hw7]; exact c5
                  have c6 : w7.cell? ⟨vb, 6, none⟩ = some (.int .u32 (x.g : Int)) := by rw [hw7]; exact c6
                  have c7 : w7.cell? ⟨vb, 7, none⟩ = some (.int .u32 (x.h : Int)) := by rw [hw7]; exact c7
                  have ck : w7.cell? ⟨w.heap.size, k, none⟩ = some (.int .u32 (kk : Int)) := by rw [hw7]; exact ck
                  have cw : w7.cell? ⟨A, k, none⟩ = some (.int .u32 (ww : Int)) := by rw [hw7]; exact cw
                  have hbw7 : Below (A + 1) w5 w7 := by rw [hw7]; exact below_drewN HV.out.2.2.2 _
                  have hvl7 : vb < w7.heap.size := by rw [hw7]; exact HV.out.2.1
                  have HB7 := Box.mk (And.intro hbw7 hvl7)
                  clear hw7 hbw7 hvl7
                  go_quiet ((first
                    | (go_at_call_has 78 (Value.int IntKind.i64 (-6)); exact Calls.quiet_of_same (still_of (HL1.out _)))
                    | (go_at_call_has 78 (Value.int IntKind.i64 (-11)); exact Calls.quiet_of_same (still_of (HL2.out _)))
                    | (go_at_call_has 78 (Value.int IntKind.i64 (-25)); exact Calls.quiet_of_same (still_of (HL3.out _)))))
                  go_wp2
                  rw [r1_int HCL.out.2.2.2.2.1 HCL.out.2.2.2.2.2.1 HCL.out.2.2.2.2.2.2.1]
                  obtain ⟨T1, hT1⟩ : ∃ T1, shaT1 x kk ww = T1 := ⟨_, rfl⟩
                  have lT1 : T1 < 4294967296 := by rw [← hT1]; exact Nat.mod_lt _ (by decide)
                  rw [hT1]
                  have HT1 : Box (shaT1 x kk ww = T1) := ⟨hT1⟩
                  clear hT1 ck cw
                  obtain ⟨w8, hw8⟩ : ∃ w8, w8 = w7.drewN nq := ⟨_, rfl⟩
                  rw [← hw8]
                  have c0 : w8.cell? ⟨vb, 0, none⟩ = some (.int .u32 (x.a : Int)) := by rw [hw8]; exact c0
                  have c1 : w8.cell? ⟨vb, 1, none⟩ = some (.int .u32 (x.b : Int)) := by rw [hw8]; exact c1
                  have c2 : w8.cell? ⟨vb, 2, none⟩ = some (.int .u32 (x.c : Int)) := by rw [hw8]; exact c2
                  have c3 : w8.cell? ⟨vb, 3, none⟩ = some (.int .u32 (x.d : Int)) := by rw [hw8]; exact c3
                  have c4 : w8.cell? ⟨vb, 4, none⟩ = some (.int .u32 (x.e : Int)) := by rw [hw8]; exact c4
                  have c5 : w8.cell? ⟨vb, 5, none⟩ = some (.int .u32 (x.f : Int)) := by rw [hw8]; exact c5
                  have c6 : w8.cell? ⟨vb, 6, none⟩ = some (.int .u32 (x.g : Int)) := by rw [hw8]; exact c6
                  have hbw8 : Below (A + 1) w5 w8 := by rw [hw8]; exact below_drewN HB7.out.1 _
                  have HB8 := Box.mk hbw8
                  clear hw8 hbw8 HB7
                  go_quiet ((first
                    | (go_at_call_has 78 (Value.int IntKind.i64 (-2)); exact Calls.quiet_of_same (still_of (HL4.out _)))
                    | (go_at_call_has 78 (Value.int IntKind.i64 (-13)); exact Calls.quiet_of_same (still_of (HL5.out _)))
                    | (go_at_call_has 78 (Value.int IntKind.i64 (-22)); exact Calls.quiet_of_same (still_of (HL6.out _)))))
                  go_wp2_with fail
                  rw [r2_int HCL.out.1 HCL.out.2.1 HCL.out.2.2.1]
                  obtain ⟨T2, hT2⟩ : ∃ T2, shaT2 x = T2 := ⟨_, rfl⟩
                  rw [hT2]
                  have HT2 : Box (shaT2 x = T2) := ⟨hT2⟩
                  clear hT2
                  obtain ⟨w9, hw9⟩ : ∃ w9, w9 = w8.drewN nq := ⟨_, rfl⟩
                  rw [← hw9]
                  have c0 : w9.cell? ⟨vb, 0, none⟩ = some (.int .u32 (x.a : Int)) := by rw [hw9]; exact c0
                  have c1 : w9.cell? ⟨vb, 1, none⟩ = some (.int .u32 (x.b : Int)) := by rw [hw9]; exact c1
                  have c2 : w9.cell? ⟨vb, 2, none⟩ = some (.int .u32 (x.c : Int)) := by rw [hw9]; exact c2
                  have c3 : w9.cell? ⟨vb, 3, none⟩ = some (.int .u32 (x.d : Int)) := by rw [hw9]; exact c3
                  have c4 : w9.cell? ⟨vb, 4, none⟩ = some (.int .u32 (x.e : Int)) := by rw [hw9]; exact c4
                  have c5 : w9.cell? ⟨vb, 5, none⟩ = some (.int .u32 (x.f : Int)) := by rw [hw9]; exact c5
                  have c6 : w9.cell? ⟨vb, 6, none⟩ = some (.int .u32 (x.g : Int)) := by rw [hw9]; exact c6
                  have hbw9 : Below (A + 1) w5 w9 := by rw [hw9]; exact below_drewN HB8.out _
                  have HB9 := Box.mk hbw9
                  clear hw9 hbw9 HB8
                  go_wp2_with fail
                  refine wp_region_still_tail 26 (by kernel_rfl) (by kernel_rfl) ?_
                  simp only [List.take_succ_cons, List.take_zero, List.drop_succ_cons, List.drop_zero]
                  repeat still_step
                  refine wpStill_nil ?_
                  go_wp2
                  have e0 : ((T1 : Int) + (T2 : Int)) % 4294967296 = (((T1 + T2) % 4294967296 : Nat) : Int) := by omega
                  have e4 : ((x.d : Int) + (T1 : Int)) % 4294967296 = (((x.d + T1) % 4294967296 : Nat) : Int) := by omega
                  rw [e0, e4]
                  have hsh : shaTo s ws (k + 1) = ⟨(T1 + T2) % 4294967296, x.a, x.b, x.c, (x.d + T1) % 4294967296, x.e, x.f, x.g⟩ := by rw [HE.out, shaRound, HT1.out, HT2.out]
                  have hs9 := HB9.out.size
                  refine ⟨⟨k + 1, _, 8, by omega, by omega, rfl, by go_num, Box.mk (And.intro (Nat.le_trans hAW5 hs9) (And.intro ?_ (And.intro ?_ ?_)))⟩, by simp [intOf]; omega⟩
                  · simp
                  · rw [hsh]; exact EightAt.of (Blk.drew (Blk.new w9 _))
                  · exact (HB9.out.alloc (Nat.le_trans hAW5 hs9) _).drew
                · obtain rfl : k = 64 := by omega
                  have hsz5 := HV.out.2.2.2.size
                  obtain ⟨x, hx⟩ : ∃ x, shaTo s ws 64 = x := ⟨_, rfl⟩
                  rw [hx] at HV
                  have hvh : vb ≠ hb := by have := HV.out.1; omega
                  have hkh : w.heap.size ≠ hb := by have := H2.out.2.2.2.2; omega
                  have hbw : w.heap.size ≤ hb := by have := H2.out.2.2.2.2; omega
                  have hh6 : Blk wr hb 113 (u32Cells (addTo s.list x.list 0)) := by
                    have e0 : addTo s.list x.list 0 = s.list := by simp [addTo]
                    rw [e0]; exact (HV.out.2.2.2.block _ (by omega)).trans (Blk.below H4.out.1 H5.out.1)
                  have hk6 : Blk wr w.heap.size 113 (u32Cells kTab) := (HV.out.2.2.2.block _ (by omega)).trans (Blk.below H4.out.2.1 H5.out.1)
                  have hb6 : Below w.heap.size w wr := (H4.out.2.2.1.trans (H5.out.1.mono H4.out.2.2.1.size)).trans (HV.out.2.2.2.mono (by omega))
                  have hfin : shaBlocks hFirst p (q + 1) = s.add x := by
                    rw [shaBlocks, HQ.out.1, ← hx, ← H4.out.2.2.2.2.1, shaMix_comm, ← H3.out.2.2.1, HA.out]
                  have H6 := Box.mk (And.intro hh6 (And.intro hk6 (And.intro hb6 (And.intro HV.out.2.2.1 hfin))))
                  clear hsz5 hx hh6 hk6 hb6 hfin HV H5 H4 H3 hk hk64
                  go_wp2
                  go_loopw [19] (fun i W => ∃ j : Nat, j ≤ 8 ∧ i = .int .i64 (j : Int) ∧ Box (Blk W hb 113 (u32Cells (addTo s.list x.list j)) ∧ Blk W w.heap.size 113 (u32Cells kTab) ∧ Below w.heap.size w W ∧ EightAt W vb x)) (fun i _ => 8 - (intOf i).toNat)
                  case atStart => exact ⟨0, by omega, rfl, ⟨H6.out.1, H6.out.2.1, H6.out.2.2.1, H6.out.2.2.2.1⟩⟩
                  case round =>
                    obtain ⟨j, hj, rfl, HJ⟩ := hrel
                    by_cases hj8 : j < 8
                    · have cx : wr.cell? ⟨hb, j, none⟩ = some (.int .u32 (s.list.getD j 0 : Nat)) := by
                        rw [Blk.cell HJ.out.1 j, u32Cells_get _ _ (by rw [addTo_length _ _ _ s.list_length x.list_length hj]; exact hj8), addTo_get _ _ _ s.list_length x.list_length hj8]
                      have cs : wr.cell? ⟨vb, j, none⟩ = some (.int .u32 (x.list.getD j 0 : Nat)) := HJ.out.2.2.2 j hj8
                      have cf : wr.frozen? ⟨hb, j, none⟩ = false := Blk.free HJ.out.1 j
                      obtain ⟨u, hu⟩ : ∃ u, s.list.getD j 0 = u := ⟨_, rfl⟩
                      obtain ⟨v, hv⟩ : ∃ v, x.list.getD j 0 = v := ⟨_, rfl⟩
                      rw [hu] at cx
                      rw [hv] at cs
                      have hst := Blk.set HJ.out.1 j (.int .u32 (((u + v) % 4294967296 : Nat) : Int))
                      have hsu := addTo_succ _ _ _ s.list_length x.list_length hj8
                      rw [hu, hv] at hsu
                      rw [u32Cells_set, hsu] at hst
                      have HST := Box.mk hst
                      clear hu hv hst hsu
                      go_wp2_with fail
                      go_region
                      all_goals
                        go_wp2
                        have e0 : ((u : Int) + (v : Int)) % 4294967296 = (((u + v) % 4294967296 : Nat) : Int) := by omega
                        rw [e0]
                        exact ⟨⟨j + 1, by omega, by go_num, Box.mk (And.intro (Blk.drew HST.out) (And.intro (Blk.drew (Blk.far HJ.out.2.1 hkh _)) (And.intro (HJ.out.2.2.1.setCell (p := ⟨hb, j, none⟩) hbw _).drew (eight_set_far HJ.out.2.2.2 hvh _))))⟩, by simp [intOf]; omega⟩
                    · obtain rfl : j = 8 := by omega
                      have hA64 : a + 64 ≤ p.size := by have := HA.out; omega
                      go_wp2
                      have hfin8 : addTo s.list x.list 8 = (s.add x).list := rfl
                      have hB8 := HJ.out.1
                      rw [hfin8, ← H6.out.2.2.2.2] at hB8
                      exact ⟨⟨q + 1, a + 64, ⟨by have := HA.out; omega⟩, hA64, by go_num, hB8, HJ.out.2.1, HJ.out.2.2.1⟩, by simp [intOf]; omega⟩
        · have haq : a = p.size := by omega
          subst haq
          obtain ⟨y, hy⟩ : ∃ y, shaBlocks hFirst p q = y := ⟨_, rfl⟩
          have hyo := shaBlocks_ok hFirst p hFirst_ok q
          rw [hy] at hblk hyo
          have hfin : y.bytes = sha256 b := by rw [sha256, HPP.out, ← hy]; congr 2; have := HA.out; omega
          have HY := Box.mk (And.intro hyo (And.intro hblk (And.intro hbel hfin)))
          clear hy hyo hblk hkb hbel hfin hlt
          go_wp2
          go_loopw [20, 21] (fun o i W => ∃ k : Nat, k ≤ 8 ∧ o = .string (wordsB y k) ∧ i = .int .i64 (k : Int) ∧ Box (Blk W hb 113 (u32Cells y.list) ∧ Below w.heap.size w W)) (fun _ i _ => 8 - (intOf i).toNat)
          case atStart => exact ⟨0, by omega, rfl, rfl, ⟨HY.out.2.1, HY.out.2.2.1⟩⟩
          case round =>
            obtain ⟨k, hk, rfl, rfl, HW⟩ := hrel
            by_cases hk8 : k < 8
            · have c0 : wr.cell? ⟨hb, k, none⟩ = some (.int .u32 (y.list.getD k 0 : Nat)) := (Blk.cell HW.out.1 k).trans (u32Cells_get _ _ (by rw [y.list_length]; exact hk8))
              have hvl := HY.out.1.get k hk8
              obtain ⟨v, hv⟩ : ∃ v, y.list.getD k 0 = v := ⟨_, rfl⟩
              have hsu := wordsB_succ y k hk8
              have hsz := wordsB_size y k hk
              rw [hv] at c0 hvl hsu
              obtain ⟨o, ho⟩ : ∃ o, wordsB y k = o := ⟨_, rfl⟩
              rw [ho] at hsu hsz ⊢
              have hp4 : (bePut v 4).size = 4 := bePut_size _ _
              have HSU := Box.mk hsu
              have HPB : Box (∀ W : World, Calls Tryz.prog 76 #[.int .u64 v, .int .i64 4] W fun e w' => e = .returned (.string (bePut v 4)) ∧ Below W.heap.size W w') := ⟨fun W => refPutBig_any v 4 W (by unfold U64; omega) (by decide) (by decide)⟩
              clear hv hsu ho
              go_wp2_with fail
              refine (HPB.out _).mono ?_
              rintro e w4 ⟨rfl, hb4⟩
              have HB4 := Box.mk hb4
              clear hb4
              go_wp2
              exact ⟨⟨k + 1, by omega, by rw [HSU.out], by go_num, Box.mk (And.intro (Blk.below HW.out.1 HB4.out) (HW.out.2.trans (HB4.out.mono HW.out.2.size)))⟩, by simp [intOf]; omega⟩
            · obtain rfl : k = 8 := by omega
              go_wp2
              go_ret
              exact ⟨by rw [wordsB_all, HY.out.2.2.2]; rfl, HW.out.2⟩
end Go.Proofs.YtkcfbipnhnboaaaGreat

namespace Go.Proofs.YtkcfbipnhnboaaaGreat
open Go.RowKit

theorem byteAt_rep (c n i : Nat) (hc : c < 256) (hi : i < n) : byteAt (repB c n) i = c := by
  have h : (repB c n).data.toList.getD i 0 = UInt8.ofNat c := by simp [repB, strOf, List.getD, hi]
  rw [byteAt, h]
  simp; omega
theorem xorPart_zero (a b : ByteArray) (n : Nat) : xorPart a b n 0 = List.replicate n 0 := by simp [xorPart, xorL]

theorem two_new {w w1 : World} (h : Below w.heap.size w w1) : Box (w1.heap.size ≠ w1.heap.size + 1 ∧ Blk ((w1.alloc (.cells (Array.replicate 64 (.int .u8 0)) 5)).alloc (.cells (Array.replicate 64 (.int .u8 0)) 5)).drew w1.heap.size 5 (byteCells (List.replicate 64 0)) ∧ Blk ((w1.alloc (.cells (Array.replicate 64 (.int .u8 0)) 5)).alloc (.cells (Array.replicate 64 (.int .u8 0)) 5)).drew (w1.heap.size + 1) 5 (byteCells (List.replicate 64 0)) ∧ Below w.heap.size w ((w1.alloc (.cells (Array.replicate 64 (.int .u8 0)) 5)).alloc (.cells (Array.replicate 64 (.int .u8 0)) 5)).drew ∧ w.heap.size ≤ w1.heap.size ∧ w.heap.size ≤ w1.heap.size + 1) := by
  have hz := h.size
  rw [byteCells_zero]
  exact ⟨by omega, Blk.drew (Blk.alloc (Blk.new w1 _) _), Blk.drew (Blk.new_at _ (by simp)), ((h.alloc hz _).alloc (by simp; omega) _).drew, hz, by omega⟩
theorem two_new' {w w1 : World} (h : Below w.heap.size w w1) : Box (w1.heap.size + 1 ≠ w1.heap.size ∧ Blk ((w1.alloc (.cells (Array.replicate 64 (.int .u8 0)) 5)).alloc (.cells (Array.replicate 64 (.int .u8 0)) 5)).drew (w1.heap.size + 1) 5 (byteCells (List.replicate 64 0)) ∧ Blk ((w1.alloc (.cells (Array.replicate 64 (.int .u8 0)) 5)).alloc (.cells (Array.replicate 64 (.int .u8 0)) 5)).drew w1.heap.size 5 (byteCells (List.replicate 64 0)) ∧ Below w.heap.size w ((w1.alloc (.cells (Array.replicate 64 (.int .u8 0)) 5)).alloc (.cells (Array.replicate 64 (.int .u8 0)) 5)).drew ∧ w.heap.size ≤ w1.heap.size + 1 ∧ w.heap.size ≤ w1.heap.size) := by
  obtain ⟨h1, h2, h3, h4, h5, h6⟩ := (two_new h).out
  exact ⟨by omega, h3, h2, h4, h6, h5⟩

set_option maxHeartbeats 8000000 in
set_option maxRecDepth 100000 in
theorem refMac_small (k b : ByteArray) (w : World) (hk : k.size ≤ 64) (hb : b.size ≤ 10000000) : Calls Tryz.prog 50 #[.string k, .string b] w fun e w' => e = .returned (.string (hmac k b)) ∧ Below w.heap.size w w' := by
  obtain ⟨kp, hkp⟩ : ∃ kp, macKey k = kp := ⟨_, rfl⟩
  obtain ⟨n0, hn0⟩ : ∃ n0 : Nat, 64 - k.size = n0 := ⟨_, rfl⟩
  have hkk : k ++ zerosB n0 = kp := by rw [← hkp, macKey, if_neg (by omega), hn0]
  have hks : kp.size = 64 := by rw [← hkp]; exact macKey_size k
  have hzs : (zerosB n0).size = n0 := zerosB_size n0
  have hsub : 64 - (k.size : Int) = (n0 : Int) := by omega
  have hcc : ¬ (9223372036854775807 < k.size + n0) := by omega
  have HZ : Box (∀ W : World, Calls Tryz.prog 70 #[.int .i64 (n0 : Int)] W fun e w' => e = .returned (.string (zerosB n0)) ∧ Below W.heap.size W w') := ⟨fun W => refZeros_any n0 W (by omega)⟩
  obtain ⟨xi, hxi⟩ : ∃ xi, xorB kp (repB 54 64) = xi := ⟨_, rfl⟩
  obtain ⟨xo, hxo⟩ : ∃ xo, xorB kp (repB 92 64) = xo := ⟨_, rfl⟩
  have hxis : xi.size = 64 := by rw [← hxi, xorB_size, hks, repB_size]; rfl
  have hxos : xo.size = 64 := by rw [← hxo, xorB_size, hks, repB_size]; rfl
  obtain ⟨si, hsi⟩ : ∃ si, sha256 (xi ++ b) = si := ⟨_, rfl⟩
  have hsis : si.size = 32 := by rw [← hsi]; exact sha256_size _
  have hfin : hmac k b = sha256 (xo ++ si) := by rw [hmac, hkp, hxi, hxo, hsi]
  obtain ⟨so, hso⟩ : ∃ so, sha256 (xo ++ si) = so := ⟨_, rfl⟩
  rw [hso] at hfin
  have HF : Box (hmac k b = so) := ⟨hfin⟩
  have HS1 : Box (∀ W : World, Calls Tryz.prog 57 #[.string (xi ++ b)] W fun e w' => e = .returned (.string si) ∧ Below W.heap.size W w') := ⟨fun W => by have := refSum_any (xi ++ b) W (by rw [ByteArray.size_append]; omega); rw [hsi] at this; exact this⟩
  have HS2 : Box (∀ W : World, Calls Tryz.prog 57 #[.string (xo ++ si)] W fun e w' => e = .returned (.string so) ∧ Below W.heap.size W w') := ⟨fun W => by have := refSum_any (xo ++ si) W (by rw [ByteArray.size_append]; omega); rw [hso] at this; exact this⟩
  have HXI : Box (strOf (xorPart kp (repB 54 64) 64 64) = xi) := ⟨by rw [xorPart_full, ← hxi, xorB, hks, repB_size]; rfl⟩
  have HXO : Box (strOf (xorPart kp (repB 92 64) 64 64) = xo) := ⟨by rw [xorPart_full, ← hxo, xorB, hks, repB_size]; rfl⟩
  have HKK : Box (k ++ zerosB n0 = kp) := ⟨hkk⟩
  have hc1 : ¬ (9223372036854775807 < 64 + b.size) := by omega
  have hmk : ∀ W : World, (Instr.makeSlice 42 (.int .i64 64) (.int .i64 64)).run Tryz.prog W = .ok (.slice (some ⟨W.heap.size, 0, none⟩) 64 64) (W.alloc (.cells (Array.replicate 64 (.int .u8 0)) 5)) := fun W => run_make_ints (P := Tryz.prog) 42 5 .u8 1 Tryz.underlying42 (by kernel_rfl) (by decide) 64 (by omega) W
  clear hfin hxi hxo hsi hso hkp hn0 hkk
  go_enter Tryz.func50, Tryz.ntmps50
  go_wp2_with fail
  refine (HZ.out _).mono ?_
  rintro e w1 ⟨rfl, hb1⟩
  have HB1 := Box.mk hb1
  clear hb1
  go_upto_region 4 with fail
  go_cut [5, 6] (fun x y W => ∃ i o : Nat, x = .slice (some ⟨i, 0, none⟩) 64 64 ∧ y = .slice (some ⟨o, 0, none⟩) 64 64 ∧ Box (i ≠ o ∧ Blk W i 5 (byteCells (List.replicate 64 0)) ∧ Blk W o 5 (byteCells (List.replicate 64 0)) ∧ Below w.heap.size w W ∧ w.heap.size ≤ i ∧ w.heap.size ≤ o))
  case first =>
    go_region
    all_goals
      go_wp2_with fail
      go_meet
      first
        | exact ⟨w1.heap.size, w1.heap.size + 1, rfl, rfl, two_new HB1.out⟩
        | exact ⟨w1.heap.size + 1, w1.heap.size, rfl, rfl, two_new' HB1.out⟩
  case rest =>
    obtain ⟨i, o, rfl, rfl, HC⟩ := hcut
    rw [HKK.out]
    clear hmk
    go_wp2
    go_loopw [7] (fun j wr => ∃ n : Nat, n ≤ 64 ∧ j = .int .i64 (n : Int) ∧ Box (Blk wr i 5 (byteCells (xorPart kp (repB 54 64) 64 n)) ∧ Blk wr o 5 (byteCells (xorPart kp (repB 92 64) 64 n)) ∧ Below w.heap.size w wr)) (fun j _ => 64 - (intOf j).toNat)
    case atStart => exact ⟨0, Nat.zero_le _, rfl, ⟨by rw [xorPart_zero, xorPart_zero]; exact ⟨HC.out.2.1, HC.out.2.2.1, HC.out.2.2.2.1⟩⟩⟩
    case round =>
      obtain ⟨n, hn, rfl, HB⟩ := hrel
      by_cases hlt : n < 64
      · have c1 := Blk.cell HB.out.1 n
        have c2 := Blk.cell HB.out.2.1 n
        rw [byteCells_get _ _ (by rw [xorPart_length _ _ _ _ hn]; exact hlt)] at c1 c2
        obtain ⟨u1, hu1⟩ : ∃ u, wr.cell? ⟨i, n, none⟩ = some u := ⟨_, c1⟩
        obtain ⟨u2, hu2⟩ : ∃ u, wr.cell? ⟨o, n, none⟩ = some u := ⟨_, c2⟩
        have hf1 : wr.frozen? ⟨i, n, none⟩ = false := Blk.free HB.out.1 n
        have hf2 : wr.frozen? ⟨o, n, none⟩ = false := Blk.free HB.out.2.1 n
        have hio : i ≠ o := HC.out.1
        have hoi : o ≠ i := fun e => hio e.symm
        obtain ⟨x, hx⟩ : ∃ x, byteAt kp n = x := ⟨_, rfl⟩
        have hx2 : x < 256 := by rw [← hx]; exact byteAt_lt _ _
        have e0 : ∀ h : n < kp.size, (kp[n]'h).toNat = x := fun h => (byteAt_get kp n h).trans hx
        have hxy1 : bits .xor .u8 (x : Int) 54 = ((x ^^^ 54 : Nat) : Int) := u8_xor_nat x 54 hx2 (by decide)
        have hxy2 : bits .xor .u8 (x : Int) 92 = ((x ^^^ 92 : Nat) : Int) := u8_xor_nat x 92 hx2 (by decide)
        have hl1 : x ^^^ 54 < 256 := Nat.xor_lt_two_pow (n := 8) hx2 (by decide)
        have hl2 : x ^^^ 92 < 256 := Nat.xor_lt_two_pow (n := 8) hx2 (by decide)
        have s1 := xorPart_succ kp (repB 54 64) 64 n hlt
        have s2 := xorPart_succ kp (repB 92 64) 64 n hlt
        rw [byteAt_rep 54 64 n (by decide) hlt, hx] at s1
        rw [byteAt_rep 92 64 n (by decide) hlt, hx] at s2
        have HXX := Box.mk (And.intro s1 s2)
        clear s1 s2 c1 c2 hx
        go_wp2_with fail
        go_region
        all_goals
          go_wp2
          refine ⟨⟨n + 1, by omega, by go_num, Box.mk (And.intro ?_ (And.intro ?_ ?_))⟩, by simp [intOf]; omega⟩
          · refine Blk.drew ?_
            rw [← HXX.out.1, ← byteCells_set]
            first
              | exact Blk.far (Blk.set HB.out.1 n _) hio _
              | exact Blk.set (Blk.far HB.out.1 hio _) n _
          · refine Blk.drew ?_
            rw [← HXX.out.2, ← byteCells_set]
            first
              | exact Blk.far (Blk.set HB.out.2.1 n _) hoi _
              | exact Blk.set (Blk.far HB.out.2.1 hoi _) n _
          · first
              | exact ((HB.out.2.2.setCell (p := ⟨i, n, none⟩) HC.out.2.2.2.2.1 _).setCell (p := ⟨o, n, none⟩) HC.out.2.2.2.2.2 _).drew
              | exact ((HB.out.2.2.setCell (p := ⟨o, n, none⟩) HC.out.2.2.2.2.2 _).setCell (p := ⟨i, n, none⟩) HC.out.2.2.2.2.1 _).drew
      · obtain rfl : n = 64 := by omega
        have hcI : ∀ W : World, Blk W i 5 (byteCells (xorPart kp (repB 54 64) 64 64)) → (convert 42 9 (.slice (some ⟨i, 0, none⟩) 64 64)).run Tryz.prog W = .ok (.string xi) W := fun W hW => by
          have := run_string_of_blk (P := Tryz.prog) 42 9 5 Tryz.underlying42 Tryz.underlying5 Tryz.underlying9 hW 64 64 (xorPart_length _ _ _ _ (Nat.le_refl _)).symm
          rw [HXI.out] at this; exact this
        have hcO : ∀ W : World, Blk W o 5 (byteCells (xorPart kp (repB 92 64) 64 64)) → (convert 42 9 (.slice (some ⟨o, 0, none⟩) 64 64)).run Tryz.prog W = .ok (.string xo) W := fun W hW => by
          have := run_string_of_blk (P := Tryz.prog) 42 9 5 Tryz.underlying42 Tryz.underlying5 Tryz.underlying9 hW 64 64 (xorPart_length _ _ _ _ (Nat.le_refl _)).symm
          rw [HXO.out] at this; exact this
        have HCV := Box.mk (And.intro hcI hcO)
        have r1 := hcI wr HB.out.1
        have r2 := hcO wr HB.out.2.1
        clear hcI hcO
        go_wp2_with fail
        go_region_held3 (fun W => (convert 42 9 (.slice (some ⟨i, 0, none⟩) 64 64)).run Tryz.prog W = .ok (.string xi) W ∧ (convert 42 9 (.slice (some ⟨o, 0, none⟩) 64 64)).run Tryz.prog W = .ok (.string xo) W) (first | exact ⟨HCV.out.1 _ (Blk.drew HB.out.1), HCV.out.2 _ (Blk.drew HB.out.2.1)⟩ | exact ⟨HCV.out.1 _ (Blk.below (Blk.drew HB.out.1) HB5.out), HCV.out.2 _ (Blk.below (Blk.drew HB.out.2.1) HB5.out)⟩ | exact ⟨HCV.out.1 _ (Blk.below (Blk.below (Blk.drew HB.out.1) HB5.out) HB6.out), HCV.out.2 _ (Blk.below (Blk.below (Blk.drew HB.out.2.1) HB5.out) HB6.out)⟩ | go_keep)
          ((first
            | (go_at_call_of 57 (Value.string (xi ++ b)); refine (HS1.out _).mono ?_; rintro e w5 ⟨rfl, hb5⟩; have HB5 := Box.mk hb5; clear hb5)
            | (go_at_call_of 57 (Value.string (xo ++ si)); refine (HS2.out _).mono ?_; rintro e w6 ⟨rfl, hb6⟩; have HB6 := Box.mk hb6; clear hb6)))
        all_goals
          go_wp2
          go_ret
          rw [HF.out]
          have z0 := HB.out.2.2.size
          have z5 := HB5.out.size
          have z5' : wr.heap.size ≤ w5.heap.size := z5
          exact ⟨rfl, (HB.out.2.2.drew.trans (HB5.out.mono z0)).trans (HB6.out.mono (by omega))⟩
end Go.Proofs.YtkcfbipnhnboaaaGreat

namespace Go.Proofs.YtkcfbipnhnboaaaGreat
open Go.RowKit

set_option maxHeartbeats 2000000 in
set_option maxRecDepth 100000 in
theorem refExpand_any (k i : ByteArray) (w : World) (hk : k.size ≤ 64) (hi : i.size ≤ 1000000) : Calls Tryz.prog 94 #[.string k, .string i, .int .i64 32] w fun e w' => e = .returned (.tuple #[.string (expand32 k i), .bool true]) ∧ Below w.heap.size w w' := by
  obtain ⟨o, ho⟩ : ∃ o, expand32 k i = o := ⟨_, rfl⟩
  have hos : o.size = 32 := by rw [← ho]; exact expand32_size _ _
  have hex : o.extract 0 32 = o := by rw [← hos]; exact extract_all o
  have HO : Box _ := ⟨ho⟩
  have hcv : ∀ W : World, (convert 42 9 (.slice (some ⟨W.heap.size, 0, none⟩) 1 1)).run Tryz.prog (W.alloc (.cells #[.int .u8 1] 5)) = .ok (.string ⟨#[1]⟩) (W.alloc (.cells #[.int .u8 1] 5)) := fun W =>
    run_string_of_blk 42 9 5 Tryz.underlying42 Tryz.underlying5 Tryz.underlying9 (l := [1]) (Blk.new W _) 1 1 rfl
  have hc1 : ¬ (9223372036854775807 < i.size + 1) := by omega
  clear ho
  go_enter Tryz.func94, Tryz.ntmps94
  go_wp2
  go_loopw [8, 9, 10] (fun a b j wr => ∃ q : Nat, q ≤ 1 ∧ a = .string (if q = 0 then ⟨#[]⟩ else o) ∧ b = .string (if q = 0 then ⟨#[]⟩ else o) ∧ j = .int .i64 ((q + 1 : Nat) : Int) ∧ Box (Below w.heap.size w wr)) (fun _ _ j _ => 5 - (intOf j).toNat)
  case atStart => exact ⟨0, by omega, rfl, rfl, rfl, ⟨Below.refl _ _⟩⟩
  case round =>
    obtain ⟨q, hq, rfl, rfl, rfl, HB⟩ := hrel
    obtain rfl | rfl : q = 0 ∨ q = 1 := by omega
    · simp only [if_true]
      go_wp2_with fail
      refine (refMac_small k _ _ (by omega) (by simp only [ByteArray.size_append]; show 0 + i.size + 1 ≤ _; omega)).mono ?_
      rintro e w1 ⟨rfl, hb1⟩
      have HB1 : Box _ := ⟨hb1⟩
      have hs1 := HB.out.size
      have e0 : (⟨#[]⟩ : ByteArray) ++ i = i := ByteArray.empty_append
      rw [e0, show hmac k (i ++ ⟨#[1]⟩) = o from HO.out]
      clear hb1 e0
      go_wp2
      have e1 : (⟨#[]⟩ : ByteArray) ++ o = o := ByteArray.empty_append
      refine ⟨⟨1, by omega, by first | rfl | (rw [e1]; rfl), rfl, by go_num, ⟨?_⟩⟩, by simp [intOf]⟩
      exact (HB.out.alloc (by omega) _).trans (HB1.out.mono (by simp; omega))
    · simp only [if_neg (show ¬ (1 : Nat) = 0 by decide)]
      go_wp2
      go_ret2
      rw [HO.out]
      exact ⟨rfl, HB.out⟩

set_option maxHeartbeats 2000000 in
set_option maxRecDepth 100000 in
theorem refExtract_any (s k : ByteArray) (w : World) (hk : s.size ≤ 64) (h0 : 0 < s.size) (hi : k.size ≤ 1000000) : Calls Tryz.prog 95 #[.string s, .string k] w fun e w' => e = .returned (.string (hmac s k)) ∧ Below w.heap.size w w' := by
  obtain ⟨o, ho⟩ : ∃ o, hmac s k = o := ⟨_, rfl⟩
  have HO : Box _ := ⟨ho⟩
  have hne4 : ¬ s.toList = [] := by
    intro e
    rw [ByteArray.toList_eq] at e
    have : s.size = 0 := by
      have h1 : s.data.toList.length = 0 := by rw [e]; rfl
      rwa [Array.length_toList] at h1
    omega
  have hne3 : s.toList.isEmpty = false := by simp [hne4]
  go_enter Tryz.func95, Tryz.ntmps95
  go_wp2_with fail
  refine (refMac_small s k _ (by omega) (by omega)).mono ?_
  rintro e w1 ⟨rfl, hb1⟩
  rw [ho]
  have HB1 : Box _ := ⟨hb1⟩
  clear hb1 ho
  go_wp2
  go_ret
  rw [HO.out]
  exact ⟨rfl, HB1.out⟩

set_option maxHeartbeats 2000000 in
set_option maxRecDepth 100000 in
theorem refKey_any (s salt i : ByteArray) (w : World) (hk : s.size ≤ 1000000) (hl : salt.size = 32) (hi : i.size ≤ 1000000) : Calls Tryz.prog 75 #[.string s, .string salt, .string i] w fun e w' => e = .returned (.string (keyOf s salt i)) ∧ Below w.heap.size w w' := by
  obtain ⟨o, ho⟩ : ∃ o, keyOf s salt i = o := ⟨_, rfl⟩
  obtain ⟨m, hm⟩ : ∃ m, hmac salt s = m := ⟨_, rfl⟩
  have hms : m.size = 32 := by rw [← hm]; exact hmac_size _ _
  have ho2 : expand32 m i = o := by rw [← ho, keyOf, hm]
  have HO : Box _ := ⟨And.intro ho (And.intro ho2 hm)⟩
  clear ho ho2 hm
  go_enter Tryz.func75, Tryz.ntmps75
  go_wp2_with fail
  refine (refExtract_any salt s _ (by omega) (by omega) (by omega)).mono ?_
  rintro e w1 ⟨rfl, hb1⟩
  rw [HO.out.2.2]
  have HB1 : Box _ := ⟨hb1⟩
  clear hb1
  go_wp2_with fail
  refine (refExpand_any m i _ (by omega) (by omega)).mono ?_
  rintro e w2 ⟨rfl, hb2⟩
  rw [HO.out.2.1]
  have HB2 : Box _ := ⟨hb2⟩
  clear hb2
  go_wp2
  go_ret
  rw [HO.out.1]
  exact ⟨rfl, HB1.out.trans (HB2.out.mono HB1.out.size)⟩

set_option maxHeartbeats 2000000 in
set_option maxRecDepth 100000 in
theorem refSession_any (s salt : ByteArray) (w : World) (hs : s.size ≤ 64) (hl : salt.size = 32) : Calls Tryz.prog 56 #[.string s, .string salt] w fun e w' => e = .returned (.agg #[.string (keyOf s salt upB), .string (keyOf s salt downB)]) ∧ Below w.heap.size w w' := by
  have HU : Box (∀ W : World, Calls Tryz.prog 75 #[.string s, .string salt, .string ⟨#[117, 112]⟩] W fun e w' => e = .returned (.string (keyOf s salt upB)) ∧ Below W.heap.size W w') := ⟨fun W => refKey_any s salt upB W (by omega) hl (by decide)⟩
  have HD : Box (∀ W : World, Calls Tryz.prog 75 #[.string s, .string salt, .string ⟨#[100, 111, 119, 110]⟩] W fun e w' => e = .returned (.string (keyOf s salt downB)) ∧ Below W.heap.size W w') := ⟨fun W => refKey_any s salt downB W (by omega) hl (by decide)⟩
  obtain ⟨u, hu⟩ : ∃ u, keyOf s salt upB = u := ⟨_, rfl⟩
  obtain ⟨d, hd⟩ : ∃ d, keyOf s salt downB = d := ⟨_, rfl⟩
  rw [hu] at HU
  rw [hd] at HD
  rw [hu, hd]
  clear hu hd
  go_enter Tryz.func56, Tryz.ntmps56
  go_wp2_with fail
  refine (HU.out _).mono ?_
  rintro e w1 ⟨rfl, hb1⟩
  have HB1 : Box _ := ⟨hb1⟩
  clear hb1
  go_wp2_with fail
  refine (HD.out _).mono ?_
  rintro e w2 ⟨rfl, hb2⟩
  have hR : Blk w2 w.heap.size 44 #[.string ⟨#[]⟩, .string ⟨#[]⟩] := Blk.below (Blk.below (Blk.new w _) HB1.out) hb2
  have HB2 : Box _ := ⟨And.intro hb2 hR⟩
  have c0 : w2.cell? ⟨w.heap.size, 0, none⟩ = some (.string ⟨#[]⟩) := Blk.cell hR 0
  have c1 : w2.cell? ⟨w.heap.size, 1, none⟩ = some (.string ⟨#[]⟩) := Blk.cell hR 1
  have f0 : w2.frozen? ⟨w.heap.size, 0, none⟩ = false := Blk.free hR 0
  have f1 : w2.frozen? ⟨w.heap.size, 1, none⟩ = false := Blk.free hR 1
  clear hb2 hR
  go_wp2
  have h3 := Blk.set (Blk.set HB2.out.2 0 (.string u)) 1 (.string d)
  refine bodyPost_ret (results_cell_row (P := Tryz.prog) Tryz.results56 _ _ w.heap.size 44 #[.string u, .string d] (0, 0) _ rfl h3 Tryz.underlying44 rfl (by kernel_rfl)) rfl ⟨rfl, ?_⟩
  have s1 := HB1.out.size
  simp at s1
  exact ((((Below.refl w.heap.size w).alloc (Nat.le_refl _) _).trans (HB1.out.mono (by simp))).trans (HB2.out.1.mono (by omega))).setCell (Nat.le_refl _) _ |>.setCell (Nat.le_refl _) _

set_option maxHeartbeats 2000000 in
set_option maxRecDepth 100000 in
theorem refProof_any (s p : ByteArray) (w : World) (hs : s.size ≤ 64) (hp : p.size ≤ 1000000) : Calls Tryz.prog 19 #[.string s, .string p] w fun e w' => e = .returned (.string (proofB s p)) ∧ Below w.heap.size w w' := by
  have hcc : ¬ (9223372036854775807 < 5 + p.size) := by omega
  have HM : Box (∀ W : World, Calls Tryz.prog 50 #[.string s, .string (⟨#[112, 114, 111, 111, 102]⟩ ++ p)] W fun e w' => e = .returned (.string (proofB s p)) ∧ Below W.heap.size W w') := ⟨fun W => refMac_small s (proofW ++ p) W (by omega) (by rw [ByteArray.size_append]; show 5 + p.size ≤ _; omega)⟩
  obtain ⟨o, ho⟩ : ∃ o, proofB s p = o := ⟨_, rfl⟩
  rw [ho] at HM ⊢
  clear ho
  go_enter Tryz.func19, Tryz.ntmps19
  go_wp2_with fail
  refine (HM.out _).mono ?_
  rintro e w1 ⟨rfl, hb1⟩
  have HB1 : Box _ := ⟨hb1⟩
  clear hb1
  go_wp2
  go_ret
  exact ⟨rfl, HB1.out⟩

set_option maxHeartbeats 2000000 in
set_option maxRecDepth 100000 in
theorem refFinish_any (s p : ByteArray) (w : World) (hs : s.size ≤ 64) (hp : p.size ≤ 1000000) : Calls Tryz.prog 21 #[.string s, .string p] w fun e w' => e = .returned (.string (finishB s p)) ∧ Below w.heap.size w w' := by
  have hcc : ¬ (9223372036854775807 < 6 + p.size) := by omega
  have HM : Box (∀ W : World, Calls Tryz.prog 50 #[.string s, .string (⟨#[102, 105, 110, 105, 115, 104]⟩ ++ p)] W fun e w' => e = .returned (.string (finishB s p)) ∧ Below W.heap.size W w') := ⟨fun W => refMac_small s (finishW ++ p) W (by omega) (by rw [ByteArray.size_append]; show 6 + p.size ≤ _; omega)⟩
  obtain ⟨o, ho⟩ : ∃ o, finishB s p = o := ⟨_, rfl⟩
  rw [ho] at HM ⊢
  clear ho
  go_enter Tryz.func21, Tryz.ntmps21
  go_wp2_with fail
  refine (HM.out _).mono ?_
  rintro e w1 ⟨rfl, hb1⟩
  have HB1 : Box _ := ⟨hb1⟩
  clear hb1
  go_wp2
  go_ret
  exact ⟨rfl, HB1.out⟩

set_option maxHeartbeats 2000000 in
set_option maxRecDepth 100000 in
theorem refKeys_any (s p : ByteArray) (w : World) (hs : s.size ≤ 64) (hp : p.size ≤ 1000000) : Calls Tryz.prog 23 #[.string s, .string p] w fun e w' => e = .returned (.agg #[.string (upOf s p), .string (downOf s p)]) ∧ Below w.heap.size w w' := by
  have hq : (sha256 p).size = 32 := sha256_size p
  have HS : Box (∀ W : World, Calls Tryz.prog 57 #[.string p] W fun e w' => e = .returned (.string (sha256 p)) ∧ Below W.heap.size W w') := ⟨fun W => refSum_any p W (by omega)⟩
  have HK : Box (∀ W : World, Calls Tryz.prog 56 #[.string s, .string (sha256 p)] W fun e w' => e = .returned (.agg #[.string (upOf s p), .string (downOf s p)]) ∧ Below W.heap.size W w') := ⟨fun W => refSession_any s (sha256 p) W (by omega) hq⟩
  obtain ⟨u, hu⟩ : ∃ u, upOf s p = u := ⟨_, rfl⟩
  obtain ⟨d, hd⟩ : ∃ d, downOf s p = d := ⟨_, rfl⟩
  obtain ⟨q, hqq⟩ : ∃ q, sha256 p = q := ⟨_, rfl⟩
  rw [hu, hd, hqq] at HK
  rw [hqq] at HS
  rw [hu, hd]
  clear hu hd hqq hq
  go_enter Tryz.func23, Tryz.ntmps23
  go_wp2_with fail
  refine (HS.out _).mono ?_
  rintro e w1 ⟨rfl, hb1⟩
  have HB1 : Box _ := ⟨hb1⟩
  clear hb1
  go_wp2_with fail
  refine (HK.out _).mono ?_
  rintro e w2 ⟨rfl, hb2⟩
  have hR : Blk w2 w.heap.size 44 #[.string ⟨#[]⟩, .string ⟨#[]⟩] := Blk.below (Blk.below (Blk.new w _) HB1.out) hb2
  have HB2 : Box _ := ⟨And.intro hb2 hR⟩
  have c0 : w2.cell? ⟨w.heap.size, 0, none⟩ = some (.string ⟨#[]⟩) := Blk.cell hR 0
  have c1 : w2.cell? ⟨w.heap.size, 1, none⟩ = some (.string ⟨#[]⟩) := Blk.cell hR 1
  have f0 : w2.frozen? ⟨w.heap.size, 0, none⟩ = false := Blk.free hR 0
  have f1 : w2.frozen? ⟨w.heap.size, 1, none⟩ = false := Blk.free hR 1
  clear hb2 hR
  go_wp2
  have h3 := Blk.set (Blk.set HB2.out.2 0 (.string u)) 1 (.string d)
  refine bodyPost_ret (results_cell_row (P := Tryz.prog) Tryz.results23 _ _ w.heap.size 44 #[.string u, .string d] (0, 0) _ rfl h3 Tryz.underlying44 rfl (by kernel_rfl)) rfl ⟨rfl, ?_⟩
  have s1 := HB1.out.size
  simp at s1
  exact ((((Below.refl w.heap.size w).alloc (Nat.le_refl _) _).trans (HB1.out.mono (by simp))).trans (HB2.out.1.mono (by omega))).setCell (Nat.le_refl _) _ |>.setCell (Nat.le_refl _) _
end Go.Proofs.YtkcfbipnhnboaaaGreat
