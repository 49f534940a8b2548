/- Package hello: Kind, put, get. Package hello: the letters of fixed length. (Printed by a loop over the kinds.) Package hello: PutHello. Names that may be: users.Right, ref14.Name. users.Right, ref14.User. ref14: letter, Hello. law5.Fill: a string of so many bytes. ref14.Fixed. shake.proof, shake.finish. shake.keys. shake.Guest: Hello, Step, at. shake.Papers; shake.Guest.Challenge: the ways that refuse. shake.Guest.Challenge: a letter that is none; a challenge. shake.Guest.Challenge: a challenge. -/
import Derived.Test.YtkcfbipnhnboaaaGreatCc
import Derived.Deep.RegionWith

namespace Go.Proofs.YtkcfbipnhnboaaaGreat
open Go.RowKit

def kindOf (b : ByteArray) : Nat := if b.size = 0 then 0 else if byteAt b 0 < 1 ∨ 5 < byteAt b 0 then 0 else byteAt b 0

set_option maxHeartbeats 1000000 in
set_option maxRecDepth 100000 in
theorem kind_any (b : ByteArray) (w : World) : Calls Tryz.prog 89 #[.string b] w fun e w' => e = .returned (.int .i64 (kindOf b : Nat)) ∧ w = w' := by
  by_cases h0 : b.size = 0
  · have hb : b = ⟨#[]⟩ := by apply ByteArray.ext; exact Array.eq_empty_of_size_eq_zero h0
    subst hb
    go_enter Tryz.func89, Tryz.ntmps89
    go_wp2
    go_ret
    exact ⟨rfl, rfl⟩
  · have hne : ¬ b = ⟨#[]⟩ := fun e => h0 (by rw [e]; rfl)
    have hne4 : ¬ b.toList = [] := by
      intro e
      apply hne
      apply ByteArray.ext
      apply Array.ext'
      rw [ByteArray.toList_eq] at e
      exact e
    have hne3 : b.toList.isEmpty = false := by simp [hne4]
    have hpos : 0 < b.size := by omega
    have e0 : ∀ h : 0 < b.size, (b[0]'h).toNat = byteAt b 0 := fun h => byteAt_get b 0 h
    have hk : kindOf b = if byteAt b 0 < 1 ∨ 5 < byteAt b 0 then 0 else byteAt b 0 := by rw [kindOf, if_neg h0]
    obtain ⟨c, hc⟩ : ∃ c, byteAt b 0 = c := ⟨_, rfl⟩
    rw [hc] at hk
    simp only [hc] at e0
    have HK : Box _ := ⟨hk⟩
    clear hk hc
    by_cases h1 : c < 1
    · go_enter Tryz.func89, Tryz.ntmps89
      go_wp2
      go_ret
      rw [HK.out, if_pos (.inl h1)]
      exact ⟨rfl, rfl⟩
    · by_cases h5 : 5 < c
      · go_enter Tryz.func89, Tryz.ntmps89
        go_wp2
        go_ret
        rw [HK.out, if_pos (.inr h5)]
        exact ⟨rfl, rfl⟩
      · go_enter Tryz.func89, Tryz.ntmps89
        go_wp2
        go_ret
        rw [HK.out, if_neg (by omega)]
        exact ⟨rfl, rfl⟩

/-- A letter: its kind, its bytes. -/
def letterB (kind : Nat) (b : ByteArray) : ByteArray := strOf [kind] ++ b

set_option maxHeartbeats 1000000 in
set_option maxRecDepth 100000 in
theorem put_any (kind : Nat) (b : ByteArray) (lo hi : Nat) (w : World) (hk : kind < 256) (hs : b.size ≤ 1000000000) :
    Calls Tryz.prog 68 #[.int .i64 (kind : Int), .string b, .int .i64 (lo : Int), .int .i64 (hi : Int)] w fun e w' => e = .returned (if lo ≤ b.size ∧ b.size ≤ hi then .tuple #[.string (letterB kind b), .bool true] else .tuple #[.string ByteArray.empty, .bool false]) ∧ Below w.heap.size w w' := by
  have hmod : (kind : Int) % 256 = (kind : Int) := by omega
  have hcv : ∀ W : World, (convert 42 9 (.slice (some ⟨W.heap.size, 0, none⟩) 1 1)).run Tryz.prog (W.alloc (.cells #[.int .u8 (kind : Int)] 5)) = .ok (.string (strOf [kind])) (W.alloc (.cells #[.int .u8 (kind : Int)] 5)) := fun W =>
    run_string_of_blk 42 9 5 Tryz.underlying42 Tryz.underlying5 Tryz.underlying9 (l := [kind]) (Blk.new W _) 1 1 rfl
  have h1s : (strOf [kind]).size = 1 := strOf_size _
  obtain ⟨k1, hk1⟩ : ∃ k1, strOf [kind] = k1 := ⟨_, rfl⟩
  have hcc : ¬ (9223372036854775807 < 1 + b.size) := by omega
  simp only [letterB]
  simp only [hk1] at hcv h1s ⊢
  clear hk1
  by_cases h1 : b.size < lo
  · rw [if_neg (by omega)]
    go_enter Tryz.func68, Tryz.ntmps68
    go_wp2
    go_ret2
    exact ⟨rfl, Below.refl _ _⟩
  · by_cases h2 : hi < b.size
    · rw [if_neg (by omega)]
      go_enter Tryz.func68, Tryz.ntmps68
      go_wp2
      go_ret2
      exact ⟨rfl, Below.refl _ _⟩
    · rw [if_pos (by omega)]
      go_enter Tryz.func68, Tryz.ntmps68
      go_wp2
      go_ret2
      exact ⟨rfl, (Below.refl _ _).alloc (Nat.le_refl _) _⟩

set_option maxHeartbeats 1000000 in
set_option maxRecDepth 100000 in
theorem get_any (kind : Nat) (b : ByteArray) (lo hi : Nat) (w : World) (hk : 1 ≤ kind ∧ kind ≤ 5) (hs : b.size ≤ 1000000000) :
    Calls Tryz.prog 66 #[.int .i64 (kind : Int), .string b, .int .i64 (lo : Int), .int .i64 (hi : Int)] w fun e w' => e = .returned (if kindOf b = kind ∧ lo + 1 ≤ b.size ∧ b.size ≤ hi + 1 then .tuple #[.string (b.extract 1 b.size), .bool true] else .tuple #[.string ByteArray.empty, .bool false]) ∧ Below w.heap.size w w' := by
  have hkd := kind_any b w
  have hk0 : b.size = 0 → kindOf b = 0 := fun h => by rw [kindOf, if_pos h]
  obtain ⟨kb, hkb⟩ : ∃ kb, kindOf b = kb := ⟨_, rfl⟩
  simp only [hkb] at hkd hk0 ⊢
  have HKD : Box _ := ⟨hkd⟩
  clear hkd hkb
  by_cases h0 : kb = kind
  · subst h0
    have hpos : 1 ≤ b.size := by
      by_cases hz : b.size = 0
      · have := hk0 hz; omega
      · omega
    by_cases h1 : b.size < lo + 1
    · rw [if_neg (by omega)]
      go_enter Tryz.func66, Tryz.ntmps66
      go_wp2_with fail
      refine HKD.out.mono ?_
      rintro e w1 ⟨rfl, rfl⟩
      go_wp2
      go_ret2
      exact ⟨rfl, Below.refl _ _⟩
    · by_cases h2 : hi + 1 < b.size
      · rw [if_neg (by omega)]
        go_enter Tryz.func66, Tryz.ntmps66
        go_wp2_with fail
        refine HKD.out.mono ?_
        rintro e w1 ⟨rfl, rfl⟩
        go_wp2
        go_ret2
        exact ⟨rfl, Below.refl _ _⟩
      · rw [if_pos ⟨rfl, by omega, by omega⟩]
        go_enter Tryz.func66, Tryz.ntmps66
        go_wp2_with fail
        refine HKD.out.mono ?_
        rintro e w1 ⟨rfl, rfl⟩
        go_wp2_with fail
        refine (clone_any (b.extract 1 b.size) _ (by rw [ByteArray.size_extract]; omega)).mono ?_
        rintro e w2 ⟨rfl, hb2⟩
        have HB2 : Box _ := ⟨hb2⟩
        clear hb2
        go_wp2
        go_ret2
        exact ⟨rfl, HB2.out⟩
  · rw [if_neg (by omega)]
    have hne : ((kb : Int) == (kind : Int)) = false := by simp only [beq_eq_false_iff_ne, ne_eq]; omega
    go_enter Tryz.func66, Tryz.ntmps66
    go_wp2_with fail
    refine HKD.out.mono ?_
    rintro e w1 ⟨rfl, rfl⟩
    go_wp2
    go_ret2
    exact ⟨rfl, Below.refl _ _⟩
end Go.Proofs.YtkcfbipnhnboaaaGreat

namespace Go.Proofs.YtkcfbipnhnboaaaGreat
open Go.RowKit

theorem results_cell_tmp {P : Program} {fn : Func} {p u : Tmp} {ty : TypeId} (h : fn.results = #[.cell p ty, .tmp u]) (tmps : Array Value) (w : World) (g : Nat) (t : TypeId) (cs : Array Value) (fr : Nat × Nat) (d : TypeDesc)
    (hp : tmps.getD p undef = .pointer (some ⟨g, 0, none⟩)) (hg : w.heap[g]? = some (.cells cs t fr))
    (hu : P.underlying ty = some d) (hd : (match d with | .struct _ | .array _ _ => true | _ => false) = true) (hi : (P.info? ty).map (·.size) = some cs.size) :
    (results fn tmps).run P w = .ok (.tuple #[.agg cs, tmps.getD u undef]) w := by
  have hp' : tmps[p]?.getD undef = .pointer (some ⟨g, 0, none⟩) := by simpa using hp
  simp [results, h, hp', asAddr, run_loadVar_row w g t ty cs fr d hg hu hd hi]
/-- A letter of kind k and of n bytes: those bytes, and is it one? -/
def fixedB (k n : Nat) (b : ByteArray) : ByteArray := if kindOf b = k ∧ n + 1 ≤ b.size ∧ b.size ≤ n + 1 then b.extract 1 b.size else ByteArray.empty
def isFixed (k n : Nat) (b : ByteArray) : Bool := decide (kindOf b = k ∧ n + 1 ≤ b.size ∧ b.size ≤ n + 1)
theorem fixed_get (k n : Nat) (b : ByteArray) (w : World) (hk : 1 ≤ k ∧ k ≤ 5) (hs : b.size ≤ 1000000000) :
    Calls Tryz.prog 66 #[.int .i64 (k : Int), .string b, .int .i64 (n : Int), .int .i64 (n : Int)] w fun e w' => e = .returned (.tuple #[.string (fixedB k n b), .bool (isFixed k n b)]) ∧ Below w.heap.size w w' := by
  refine (get_any k b n n w hk hs).mono ?_
  rintro e w' ⟨rfl, hb⟩
  refine ⟨?_, hb⟩
  by_cases h : kindOf b = k ∧ n + 1 ≤ b.size ∧ b.size ≤ n + 1
  · rw [if_pos h, fixedB, if_pos h, isFixed, decide_eq_true h]
  · rw [if_neg h, fixedB, if_neg h, isFixed, decide_eq_false h]

set_option maxHeartbeats 1000000 in
set_option maxRecDepth 100000 in
theorem putChallenge_any (b : ByteArray) (w : World) (hs : b.size = 16) : Calls Tryz.prog 81 #[.agg #[.string b]] w fun e w' => e = .returned (.tuple #[.string (letterB 2 b), .bool true]) ∧ Below w.heap.size w w' := by
  have HP : Box (∀ W : World, Calls Tryz.prog 68 #[.int .i64 2, .string b, .int .i64 16, .int .i64 16] W fun e w' => e = .returned (.tuple #[.string (letterB 2 b), .bool true]) ∧ Below W.heap.size W w') := ⟨fun W => by
    have := put_any 2 b 16 16 W (by omega) (by omega)
    rw [if_pos (by omega)] at this
    exact this⟩
  go_enter Tryz.func81, Tryz.ntmps81
  go_wp2_with fail
  refine (HP.out _).mono ?_
  rintro e w1 ⟨rfl, hb1⟩
  have HB1 : Box _ := ⟨hb1⟩
  clear hb1
  go_wp2
  go_ret2
  exact ⟨rfl, ((Below.refl _ _).alloc (Nat.le_refl _) _).trans (HB1.out.mono (by simp))⟩

set_option maxHeartbeats 1000000 in
set_option maxRecDepth 100000 in
theorem getChallenge_any (b : ByteArray) (w : World) (hs : b.size ≤ 1000000000) : Calls Tryz.prog 46 #[.string b] w fun e w' => e = .returned (.tuple #[.agg #[.string (fixedB 2 16 b)], .bool (isFixed 2 16 b)]) ∧ Below w.heap.size w w' := by
  have HG : Box (∀ W : World, Calls Tryz.prog 66 #[.int .i64 2, .string b, .int .i64 16, .int .i64 16] W fun e w' => e = .returned (.tuple #[.string (fixedB 2 16 b), .bool (isFixed 2 16 b)]) ∧ Below W.heap.size W w') := ⟨fun W => fixed_get 2 16 b W (by omega) hs⟩
  obtain ⟨x, hx⟩ : ∃ x, fixedB 2 16 b = x := ⟨_, rfl⟩
  obtain ⟨y, hy⟩ : ∃ y, isFixed 2 16 b = y := ⟨_, rfl⟩
  rw [hx, hy] at HG
  rw [hx, hy]
  clear hx hy
  go_enter Tryz.func46, Tryz.ntmps46
  go_wp2_with fail
  refine (HG.out _).mono ?_
  rintro e w1 ⟨rfl, hb1⟩
  have hR : Blk w1 w.heap.size 94 #[.string ⟨#[]⟩] := Blk.below (Blk.new w _) hb1
  have HB1 : Box _ := ⟨And.intro hb1 hR⟩
  have c0 : w1.cell? ⟨w.heap.size, 0, none⟩ = some (.string ⟨#[]⟩) := Blk.cell hR 0
  have f0 : w1.frozen? ⟨w.heap.size, 0, none⟩ = false := Blk.free hR 0
  clear hb1 hR
  go_wp2
  have h3 := Blk.set HB1.out.2 0 (.string x)
  refine bodyPost_ret (results_cell_tmp (P := Tryz.prog) Tryz.results46 _ _ w.heap.size 94 #[.string x] (0, 0) _ rfl h3 Tryz.underlying94 rfl (by kernel_rfl)) rfl ⟨rfl, ?_⟩
  exact (((Below.refl w.heap.size w).alloc (Nat.le_refl _) _).trans (HB1.out.1.mono (by simp))).setCell (Nat.le_refl _) _

set_option maxHeartbeats 1000000 in
set_option maxRecDepth 100000 in
theorem putProof_any (b : ByteArray) (w : World) (hs : b.size = 32) : Calls Tryz.prog 48 #[.agg #[.string b]] w fun e w' => e = .returned (.tuple #[.string (letterB 3 b), .bool true]) ∧ Below w.heap.size w w' := by
  have HP : Box (∀ W : World, Calls Tryz.prog 68 #[.int .i64 3, .string b, .int .i64 32, .int .i64 32] W fun e w' => e = .returned (.tuple #[.string (letterB 3 b), .bool true]) ∧ Below W.heap.size W w') := ⟨fun W => by
    have := put_any 3 b 32 32 W (by omega) (by omega)
    rw [if_pos (by omega)] at this
    exact this⟩
  go_enter Tryz.func48, Tryz.ntmps48
  go_wp2_with fail
  refine (HP.out _).mono ?_
  rintro e w1 ⟨rfl, hb1⟩
  have HB1 : Box _ := ⟨hb1⟩
  clear hb1
  go_wp2
  go_ret2
  exact ⟨rfl, ((Below.refl _ _).alloc (Nat.le_refl _) _).trans (HB1.out.mono (by simp))⟩

set_option maxHeartbeats 1000000 in
set_option maxRecDepth 100000 in
theorem getProof_any (b : ByteArray) (w : World) (hs : b.size ≤ 1000000000) : Calls Tryz.prog 82 #[.string b] w fun e w' => e = .returned (.tuple #[.agg #[.string (fixedB 3 32 b)], .bool (isFixed 3 32 b)]) ∧ Below w.heap.size w w' := by
  have HG : Box (∀ W : World, Calls Tryz.prog 66 #[.int .i64 3, .string b, .int .i64 32, .int .i64 32] W fun e w' => e = .returned (.tuple #[.string (fixedB 3 32 b), .bool (isFixed 3 32 b)]) ∧ Below W.heap.size W w') := ⟨fun W => fixed_get 3 32 b W (by omega) hs⟩
  obtain ⟨x, hx⟩ : ∃ x, fixedB 3 32 b = x := ⟨_, rfl⟩
  obtain ⟨y, hy⟩ : ∃ y, isFixed 3 32 b = y := ⟨_, rfl⟩
  rw [hx, hy] at HG
  rw [hx, hy]
  clear hx hy
  go_enter Tryz.func82, Tryz.ntmps82
  go_wp2_with fail
  refine (HG.out _).mono ?_
  rintro e w1 ⟨rfl, hb1⟩
  have hR : Blk w1 w.heap.size 100 #[.string ⟨#[]⟩] := Blk.below (Blk.new w _) hb1
  have HB1 : Box _ := ⟨And.intro hb1 hR⟩
  have c0 : w1.cell? ⟨w.heap.size, 0, none⟩ = some (.string ⟨#[]⟩) := Blk.cell hR 0
  have f0 : w1.frozen? ⟨w.heap.size, 0, none⟩ = false := Blk.free hR 0
  clear hb1 hR
  go_wp2
  have h3 := Blk.set HB1.out.2 0 (.string x)
  refine bodyPost_ret (results_cell_tmp (P := Tryz.prog) Tryz.results82 _ _ w.heap.size 100 #[.string x] (0, 0) _ rfl h3 Tryz.underlying100 rfl (by kernel_rfl)) rfl ⟨rfl, ?_⟩
  exact (((Below.refl w.heap.size w).alloc (Nat.le_refl _) _).trans (HB1.out.1.mono (by simp))).setCell (Nat.le_refl _) _

set_option maxHeartbeats 1000000 in
set_option maxRecDepth 100000 in
theorem putFinish_any (b : ByteArray) (w : World) (hs : b.size = 32) : Calls Tryz.prog 87 #[.agg #[.string b]] w fun e w' => e = .returned (.tuple #[.string (letterB 4 b), .bool true]) ∧ Below w.heap.size w w' := by
  have HP : Box (∀ W : World, Calls Tryz.prog 68 #[.int .i64 4, .string b, .int .i64 32, .int .i64 32] W fun e w' => e = .returned (.tuple #[.string (letterB 4 b), .bool true]) ∧ Below W.heap.size W w') := ⟨fun W => by
    have := put_any 4 b 32 32 W (by omega) (by omega)
    rw [if_pos (by omega)] at this
    exact this⟩
  go_enter Tryz.func87, Tryz.ntmps87
  go_wp2_with fail
  refine (HP.out _).mono ?_
  rintro e w1 ⟨rfl, hb1⟩
  have HB1 : Box _ := ⟨hb1⟩
  clear hb1
  go_wp2
  go_ret2
  exact ⟨rfl, ((Below.refl _ _).alloc (Nat.le_refl _) _).trans (HB1.out.mono (by simp))⟩

set_option maxHeartbeats 1000000 in
set_option maxRecDepth 100000 in
theorem getFinish_any (b : ByteArray) (w : World) (hs : b.size ≤ 1000000000) : Calls Tryz.prog 52 #[.string b] w fun e w' => e = .returned (.tuple #[.agg #[.string (fixedB 4 32 b)], .bool (isFixed 4 32 b)]) ∧ Below w.heap.size w w' := by
  have HG : Box (∀ W : World, Calls Tryz.prog 66 #[.int .i64 4, .string b, .int .i64 32, .int .i64 32] W fun e w' => e = .returned (.tuple #[.string (fixedB 4 32 b), .bool (isFixed 4 32 b)]) ∧ Below W.heap.size W w') := ⟨fun W => fixed_get 4 32 b W (by omega) hs⟩
  obtain ⟨x, hx⟩ : ∃ x, fixedB 4 32 b = x := ⟨_, rfl⟩
  obtain ⟨y, hy⟩ : ∃ y, isFixed 4 32 b = y := ⟨_, rfl⟩
  rw [hx, hy] at HG
  rw [hx, hy]
  clear hx hy
  go_enter Tryz.func52, Tryz.ntmps52
  go_wp2_with fail
  refine (HG.out _).mono ?_
  rintro e w1 ⟨rfl, hb1⟩
  have hR : Blk w1 w.heap.size 102 #[.string ⟨#[]⟩] := Blk.below (Blk.new w _) hb1
  have HB1 : Box _ := ⟨And.intro hb1 hR⟩
  have c0 : w1.cell? ⟨w.heap.size, 0, none⟩ = some (.string ⟨#[]⟩) := Blk.cell hR 0
  have f0 : w1.frozen? ⟨w.heap.size, 0, none⟩ = false := Blk.free hR 0
  clear hb1 hR
  go_wp2
  have h3 := Blk.set HB1.out.2 0 (.string x)
  refine bodyPost_ret (results_cell_tmp (P := Tryz.prog) Tryz.results52 _ _ w.heap.size 102 #[.string x] (0, 0) _ rfl h3 Tryz.underlying102 rfl (by kernel_rfl)) rfl ⟨rfl, ?_⟩
  exact (((Below.refl w.heap.size w).alloc (Nat.le_refl _) _).trans (HB1.out.1.mono (by simp))).setCell (Nat.le_refl _) _
end Go.Proofs.YtkcfbipnhnboaaaGreat

namespace Go.Proofs.YtkcfbipnhnboaaaGreat
open Go.RowKit

def helloB (u n : ByteArray) : ByteArray := strOf [1, u.size] ++ u ++ n
def helloOk (u n : ByteArray) : Prop := n.size = 16 ∧ 1 ≤ u.size ∧ u.size ≤ 20
instance (u n : ByteArray) : Decidable (helloOk u n) := by unfold helloOk; infer_instance

set_option maxHeartbeats 1000000 in
set_option maxRecDepth 100000 in
theorem putHello_yes (u n : ByteArray) (w : World) (h : helloOk u n) : Calls Tryz.prog 38 #[.agg #[.string u, .string n]] w fun e w' => e = .returned (.tuple #[.string (helloB u n), .bool true]) ∧ Below w.heap.size w w' := by
  obtain ⟨hn, hu1, hu2⟩ := h
  obtain ⟨k, hk⟩ : ∃ k, u.size = k := ⟨_, rfl⟩
  rw [hk] at hu1 hu2
  have hmod : (k : Int) % 256 = (k : Int) := by omega
  have hcv : ∀ W : World, (convert 42 9 (.slice (some ⟨W.heap.size, 0, none⟩) 2 2)).run Tryz.prog (W.alloc (.cells #[.int .u8 1, .int .u8 (k : Int)] 5)) = .ok (.string (strOf [1, k])) (W.alloc (.cells #[.int .u8 1, .int .u8 (k : Int)] 5)) := fun W =>
    run_string_of_blk 42 9 5 Tryz.underlying42 Tryz.underlying5 Tryz.underlying9 (l := [1, k]) (Blk.new W _) 2 2 rfl
  have h2s : (strOf [1, k]).size = 2 := strOf_size _
  obtain ⟨h2, hh2⟩ : ∃ h2, strOf [1, k] = h2 := ⟨_, rfl⟩
  have ho : helloB u n = h2 ++ u ++ n := by rw [helloB, hk, hh2]
  have HO : Box _ := ⟨ho⟩
  rw [hh2] at h2s
  simp only [hh2] at hcv
  have hcv2 := hcv (w.alloc (.cells #[.string u, .string n] 32))
  simp only [World.size_alloc] at hcv2
  have hcc : ¬ (9223372036854775807 < 2 + k) := by omega
  have hcc2 : ¬ (9223372036854775807 < 2 + k + 16) := by omega
  clear ho hh2
  go_enter Tryz.func38, Tryz.ntmps38
  go_wp2
  go_ret2
  rw [HO.out]
  exact ⟨rfl, ((Below.refl _ _).alloc (Nat.le_refl _) _).alloc (by simp) _⟩

set_option maxHeartbeats 1000000 in
set_option maxRecDepth 100000 in
theorem putHello_no (u n : ByteArray) (w : World) (h : ¬ helloOk u n) : Calls Tryz.prog 38 #[.agg #[.string u, .string n]] w fun e w' => e = .returned (.tuple #[.string ByteArray.empty, .bool false]) ∧ Below w.heap.size w w' := by
  unfold helloOk at h
  by_cases h1 : n.size = 16
  · by_cases h2 : u.size < 1
    · go_enter Tryz.func38, Tryz.ntmps38
      go_wp2
      go_ret2
      exact ⟨rfl, (Below.refl _ _).alloc (Nat.le_refl _) _⟩
    · have h3 : 20 < u.size := by omega
      go_enter Tryz.func38, Tryz.ntmps38
      go_wp2
      go_ret2
      exact ⟨rfl, (Below.refl _ _).alloc (Nat.le_refl _) _⟩
  · have hne : ((n.size : Int) == 16) = false := by simp only [beq_eq_false_iff_ne, ne_eq]; omega
    have hne2 : ¬ (n.size : Int) = 16 := by omega
    go_enter Tryz.func38, Tryz.ntmps38
    go_wp2
    go_ret2
    exact ⟨rfl, (Below.refl _ _).alloc (Nat.le_refl _) _⟩
end Go.Proofs.YtkcfbipnhnboaaaGreat

namespace Go.Proofs.YtkcfbipnhnboaaaGreat
open Go.RowKit

def okChar (s : ByteArray) (i : Nat) : Bool := decide (33 ≤ byteAt s i ∧ byteAt s i ≤ 126)
def okTo (s : ByteArray) (k : Nat) : Bool := (List.range k).all (okChar s)
theorem okTo_succ (s : ByteArray) (k : Nat) : okTo s (k + 1) = (okTo s k && okChar s k) := by simp [okTo, List.range_succ]
theorem okTo_bad (s : ByteArray) (k n : Nat) (h : k < n) (hb : okChar s k = false) : okTo s n = false := by
  rw [okTo, List.all_eq_false]
  exact ⟨k, List.mem_range.2 h, by simp [hb]⟩
def nameOk (s : ByteArray) : Bool := okTo s s.size && decide (1 ≤ s.size ∧ s.size ≤ 20)

set_option maxHeartbeats 1000000 in
set_option maxRecDepth 100000 in
theorem refName_big (s : ByteArray) (w : World) (hs : s.size ≤ maxLen) : Calls Tryz.prog 35 #[.string s] w fun e w' => e = .returned (.bool (nameOk s)) ∧ w = w' := by
  unfold maxLen at hs
  go_enter Tryz.func35, Tryz.ntmps35
  go_wp2
  go_loop [3] (fun i => ∃ k : Nat, k ≤ s.size ∧ i = .int .i64 (k : Int) ∧ Box (okTo s k = true)) (fun i => s.size - (intOf i).toNat)
  case atStart => exact ⟨0, Nat.zero_le _, rfl, ⟨rfl⟩⟩
  case round =>
    obtain ⟨k, hk, rfl, HO⟩ := hrel
    by_cases hlt : k < s.size
    · have e0 : ∀ h : k < s.size, (s[k]'h).toNat = byteAt s k := fun h => byteAt_get s k h
      obtain ⟨c, hc⟩ : ∃ c, byteAt s k = c := ⟨_, rfl⟩
      simp only [hc] at e0
      have HC : Box _ := ⟨hc⟩
      clear hc
      by_cases h1 : c < 33
      · have hbad : nameOk s = false := by rw [nameOk, okTo_bad s k s.size hlt (by rw [okChar, HC.out]; exact decide_eq_false (by omega))]; rfl
        go_wp2
        go_ret
        exact ⟨rfl, rfl⟩
      · by_cases h2 : 126 < c
        · have hbad : nameOk s = false := by rw [nameOk, okTo_bad s k s.size hlt (by rw [okChar, HC.out]; exact decide_eq_false (by omega))]; rfl
          go_wp2
          go_ret
          exact ⟨rfl, rfl⟩
        · go_wp2
          exact ⟨⟨k + 1, by omega, by go_num, ⟨by rw [okTo_succ, HO.out, okChar, HC.out]; simp; omega⟩⟩, by simp [intOf]; omega⟩
    · obtain rfl : k = s.size := by omega
      have hn : nameOk s = decide (1 ≤ s.size ∧ s.size ≤ 20) := by rw [nameOk, HO.out]; rfl
      have HN : Box _ := ⟨hn⟩
      clear hn
      by_cases h1 : 1 ≤ s.size
      · go_wp2
        go_ret
        rw [HN.out]
        refine ⟨?_, rfl⟩
        show Ending.returned (.bool (decide ((s.size : Int) ≤ 20))) = _
        congr 2
        by_cases h2 : s.size ≤ 20
        · rw [decide_eq_true (show (s.size : Int) ≤ 20 by omega), decide_eq_true ⟨h1, h2⟩]
        · rw [decide_eq_false (show ¬ (s.size : Int) ≤ 20 by omega), decide_eq_false (by omega)]
      · go_wp2
        go_ret
        rw [HN.out, decide_eq_false (by omega)]
        exact ⟨rfl, rfl⟩
theorem refName_any (s : ByteArray) (w : World) (hs : s.size ≤ 1000000000) : Calls Tryz.prog 35 #[.string s] w fun e w' => e = .returned (.bool (nameOk s)) ∧ w = w' :=
  refName_big s w (by unfold maxLen; omega)
end Go.Proofs.YtkcfbipnhnboaaaGreat

namespace Go.Proofs.YtkcfbipnhnboaaaGreat
open Go.RowKit

def userOk (u s : ByteArray) : Bool := nameOk u && decide (s.size = 32)

set_option maxHeartbeats 1000000 in
set_option maxRecDepth 100000 in
theorem refUser_big (u s : ByteArray) (w : World) (hu : u.size ≤ maxLen) : Calls Tryz.prog 14 #[.agg #[.string u, .string s]] w fun e w' => e = .returned (.bool (userOk u s)) ∧ Below w.heap.size w w' := by
  obtain ⟨b, hb⟩ : ∃ b, nameOk u = b := ⟨_, rfl⟩
  have HB : Box _ := ⟨hb⟩
  clear hb
  go_enter Tryz.func14, Tryz.ntmps14
  go_wp2_with fail
  refine (refName_big u _ hu).mono ?_
  rintro e w1 ⟨rfl, rfl⟩
  rw [HB.out]
  cases b with
  | false =>
    go_wp2
    go_ret
    rw [userOk, HB.out]
    exact ⟨rfl, (Below.refl _ _).alloc (Nat.le_refl _) _⟩
  | true =>
    go_wp2
    go_ret
    rw [userOk, HB.out]
    refine ⟨?_, (Below.refl _ _).alloc (Nat.le_refl _) _⟩
    show Ending.returned (.bool ((s.size : Int) == 32)) = _
    congr 2
    by_cases h : s.size = 32
    · rw [decide_eq_true h, h]; rfl
    · rw [decide_eq_false h]
      simp only [Bool.true_and, beq_eq_false_iff_ne, ne_eq]
      omega

theorem refUser_any (u s : ByteArray) (w : World) (hu : u.size ≤ 1000000000) : Calls Tryz.prog 14 #[.agg #[.string u, .string s]] w fun e w' => e = .returned (.bool (userOk u s)) ∧ Below w.heap.size w w' :=
  refUser_big u s w (by unfold maxLen; omega)

set_option maxHeartbeats 1000000 in
set_option maxRecDepth 100000 in
theorem right_any_user (u s : ByteArray) (w : World) (hu : u.size ≤ 1000000000) : Calls Tryz.prog 43 #[.agg #[.string u, .string s]] w fun e w' => e = .returned (.bool (userOk u s)) ∧ Below w.heap.size w w' := by
  by_cases h1 : u.size < 1
  · have hf : userOk u s = false := by rw [userOk, nameOk, decide_eq_false (p := 1 ≤ u.size ∧ u.size ≤ 20) (by omega)]; simp
    go_enter Tryz.func43, Tryz.ntmps43
    go_wp2
    go_ret
    exact ⟨rfl, (Below.refl _ _).alloc (Nat.le_refl _) _⟩
  · by_cases h2 : 20 < u.size
    · have hf : userOk u s = false := by rw [userOk, nameOk, decide_eq_false (p := 1 ≤ u.size ∧ u.size ≤ 20) (by omega)]; simp
      go_enter Tryz.func43, Tryz.ntmps43
      go_wp2
      go_ret
      exact ⟨rfl, (Below.refl _ _).alloc (Nat.le_refl _) _⟩
    · by_cases h3 : s.size = 32
      · have hn : userOk u s = okTo u u.size := by rw [userOk, nameOk, decide_eq_true (p := 1 ≤ u.size ∧ u.size ≤ 20) (by omega), decide_eq_true h3]; simp
        have HN : Box _ := ⟨hn⟩
        have hcv := fun w => Lib.run_convert_string_bytes (P := Tryz.prog) w 9 42 5 u Tryz.underlying9 Tryz.underlying42 Tryz.underlying5
        have hrow := fun j (hj : j < u.size) => Lib.bytesWorld_cell (w.alloc (.cells #[.string u, .string s] 23)) 5 u j hj
        simp only [World.size_alloc] at hrow
        have HR : Box _ := ⟨hrow⟩
        clear hn hrow
        go_enter Tryz.func43, Tryz.ntmps43
        go_wp2
        go_loop [25] (fun i => ∃ k : Nat, k ≤ u.size ∧ i = .int .i64 (k : Int) ∧ Box (okTo u k = true)) (fun i => u.size - (intOf i).toNat)
        case atStart => exact ⟨0, Nat.zero_le _, rfl, ⟨rfl⟩⟩
        case round =>
          obtain ⟨k, hk, rfl, HO⟩ := hrel
          by_cases hlt : k < u.size
          · have hc0 := HR.out k hlt
            obtain ⟨c, hc⟩ : ∃ c, (u.data.toList.getD k 0).toNat = c := ⟨_, rfl⟩
            rw [hc] at hc0
            have HC : Box (byteAt u k = c) := ⟨hc⟩
            clear hc
            by_cases g1 : c < 33
            · have hbad : okTo u u.size = false := okTo_bad u k u.size hlt (by rw [okChar, HC.out]; exact decide_eq_false (by omega))
              go_wp2
              go_ret
              rw [HN.out, hbad]
              exact ⟨rfl, bytes_below ((Below.refl _ _).alloc (Nat.le_refl _) _) (by simp) _ _⟩
            · by_cases g2 : 126 < c
              · have hbad : okTo u u.size = false := okTo_bad u k u.size hlt (by rw [okChar, HC.out]; exact decide_eq_false (by omega))
                go_wp2
                go_ret
                rw [HN.out, hbad]
                exact ⟨rfl, bytes_below ((Below.refl _ _).alloc (Nat.le_refl _) _) (by simp) _ _⟩
              · go_wp2
                exact ⟨⟨k + 1, by omega, by go_num, ⟨by rw [okTo_succ, HO.out, okChar, HC.out]; simp; omega⟩⟩, by simp [intOf]; omega⟩
          · obtain rfl : k = u.size := by omega
            go_wp2
            go_ret
            rw [HN.out, HO.out]
            exact ⟨rfl, bytes_below ((Below.refl _ _).alloc (Nat.le_refl _) _) (by simp) _ _⟩
      · have hf : userOk u s = false := by rw [userOk, decide_eq_false h3]; simp
        have hne : ((s.size : Int) == 32) = false := by simp only [beq_eq_false_iff_ne, ne_eq]; omega
        have hne2 : ((s.size : Int) != 32) = true := by rw [bne, hne]; rfl
        go_enter Tryz.func43, Tryz.ntmps43
        go_wp2
        go_ret
        exact ⟨by first | rfl | (rw [hf]; rfl), (Below.refl _ _).alloc (Nat.le_refl _) _⟩
end Go.Proofs.YtkcfbipnhnboaaaGreat

namespace Go.Proofs.YtkcfbipnhnboaaaGreat
open Go.RowKit

set_option maxHeartbeats 1000000 in
set_option maxRecDepth 100000 in
theorem refLetter_any (kind : Nat) (b : ByteArray) (w : World) (hk : kind < 256) (hs : b.size ≤ 1000000000) :
    Calls Tryz.prog 44 #[.int .i64 (kind : Int), .string b] w fun e w' => e = .returned (.string (letterB kind b)) ∧ Below w.heap.size w w' := by
  have hmod : (kind : Int) % 256 = (kind : Int) := by omega
  have hcv : ∀ W : World, (convert 42 9 (.slice (some ⟨W.heap.size, 0, none⟩) 1 1)).run Tryz.prog (W.alloc (.cells #[.int .u8 (kind : Int)] 5)) = .ok (.string (strOf [kind])) (W.alloc (.cells #[.int .u8 (kind : Int)] 5)) := fun W =>
    run_string_of_blk 42 9 5 Tryz.underlying42 Tryz.underlying5 Tryz.underlying9 (l := [kind]) (Blk.new W _) 1 1 rfl
  have h1s : (strOf [kind]).size = 1 := strOf_size _
  obtain ⟨k1, hk1⟩ : ∃ k1, strOf [kind] = k1 := ⟨_, rfl⟩
  have hcc : ¬ (9223372036854775807 < 1 + b.size) := by omega
  simp only [letterB]
  simp only [hk1] at hcv h1s ⊢
  clear hk1
  go_enter Tryz.func44, Tryz.ntmps44
  go_wp2
  go_ret
  exact ⟨rfl, (Below.refl _ _).alloc (Nat.le_refl _) _⟩
end Go.Proofs.YtkcfbipnhnboaaaGreat

namespace Go.Proofs.YtkcfbipnhnboaaaGreat
open Go.RowKit

/-- s, filled up with zeros and cut to n bytes. -/
def fillTo (s : ByteArray) (k : Nat) : ByteArray := s ++ zerosB k
def fillB (s : ByteArray) (n : Nat) : ByteArray := (s ++ zerosB (n - s.size)).extract 0 n
theorem fillB_size (s : ByteArray) (n : Nat) : (fillB s n).size = n := by
  rw [fillB, ByteArray.size_extract, ByteArray.size_append, zerosB_size]; omega
theorem zerosB_succ (k : Nat) : zerosB (k + 1) = zerosB k ++ ⟨#[0]⟩ := by
  apply ByteArray.ext
  apply Array.ext'
  simp [zerosB, strOf, ByteArray.data_append, List.replicate_succ']
theorem fillTo_succ (s : ByteArray) (k : Nat) : fillTo s k ++ ⟨#[0]⟩ = fillTo s (k + 1) := by
  rw [fillTo, fillTo, zerosB_succ, ByteArray.append_assoc]

set_option maxHeartbeats 1000000 in
set_option maxRecDepth 100000 in
theorem fill_any (s : ByteArray) (n : Nat) (w : World) (hn : n ≤ 1000000) : Calls Tryz.prog 16 #[.string s, .int .i64 (n : Int)] w fun e w' => e = .returned (.string (fillB s n)) ∧ w = w' := by
  go_enter Tryz.func16, Tryz.ntmps16
  go_wp2
  go_loop [0] (fun x => ∃ k : Nat, k ≤ n - s.size ∧ x = .string (fillTo s k)) (fun x => n - strSize x)
  case atStart =>
    refine ⟨0, Nat.zero_le _, ?_⟩
    have : zerosB 0 = ByteArray.empty := rfl
    rw [fillTo, this, ByteArray.append_empty]
  case round =>
    obtain ⟨k, hk, rfl⟩ := hrel
    obtain ⟨x, hx⟩ : ∃ x, fillTo s k = x := ⟨_, rfl⟩
    have hxs : x.size = s.size + k := by rw [← hx, fillTo, ByteArray.size_append, zerosB_size]
    rw [hx]
    have HX : Box _ := ⟨hx⟩
    clear hx
    by_cases hlt : s.size + k < n
    · have hcc : ¬ (9223372036854775807 < s.size + k + 1) := by omega
      go_wp2
      refine ⟨⟨k + 1, by omega, by rw [← fillTo_succ, HX.out]⟩, ?_⟩
      show n - (x ++ ⟨#[0]⟩ : ByteArray).size < n - x.size
      rw [ByteArray.size_append, hxs]
      show n - (s.size + k + 1) < n - (s.size + k)
      omega
    · have hkk : k = n - s.size := by omega
      have hf : fillB s n = x.extract 0 n := by rw [fillB, ← HX.out, fillTo, hkk]
      have HF : Box _ := ⟨hf⟩
      clear hf
      go_wp2
      go_ret
      rw [HF.out]
      exact ⟨rfl, rfl⟩
end Go.Proofs.YtkcfbipnhnboaaaGreat

namespace Go.Proofs.YtkcfbipnhnboaaaGreat
open Go.RowKit

theorem fixed_iff (k n : Nat) (b : ByteArray) (hk : 1 ≤ k ∧ k ≤ 5) : (kindOf b = k ∧ n + 1 ≤ b.size ∧ b.size ≤ n + 1) ↔ (b.size = n + 1 ∧ byteAt b 0 = k) := by
  constructor
  · rintro ⟨h1, h2, h3⟩
    refine ⟨by omega, ?_⟩
    rw [kindOf, if_neg (by omega)] at h1
    split at h1
    · omega
    · exact h1
  · rintro ⟨h1, h2⟩
    refine ⟨?_, by omega, by omega⟩
    rw [kindOf, if_neg (by omega), if_neg (by omega), h2]

set_option maxHeartbeats 1000000 in
set_option maxRecDepth 100000 in
theorem refFixed_any (k n : Nat) (b : ByteArray) (w : World) (hk : 1 ≤ k ∧ k ≤ 5) (hn : n ≤ 1000) (_hs : b.size ≤ 1000000000) : Calls Tryz.prog 17 #[.int .i64 (k : Int), .int .i64 (n : Int), .string b] w fun e w' => e = .returned (.tuple #[.string (fixedB k n b), .bool (isFixed k n b)]) ∧ w = w' := by
  have hiff := fixed_iff k n b hk
  by_cases h1 : b.size = n + 1
  · have e0 : ∀ h : 0 < b.size, (b[0]'h).toNat = byteAt b 0 := fun h => byteAt_get b 0 h
    have hfx : fixedB k n b = if byteAt b 0 = k then b.extract 1 b.size else ByteArray.empty := by
      by_cases hb : byteAt b 0 = k
      · rw [fixedB, if_pos (hiff.2 ⟨h1, hb⟩), if_pos hb]
      · rw [fixedB, if_neg (fun e => hb (hiff.1 e).2), if_neg hb]
    have hix : isFixed k n b = decide (byteAt b 0 = k) := by
      by_cases hb : byteAt b 0 = k
      · rw [isFixed, decide_eq_true (hiff.2 ⟨h1, hb⟩), decide_eq_true hb]
      · rw [isFixed, decide_eq_false (fun e => hb (hiff.1 e).2), decide_eq_false hb]
    have hc256 := byteAt_lt b 0
    obtain ⟨c, hc⟩ : ∃ c, byteAt b 0 = c := ⟨_, rfl⟩
    rw [hc] at hfx hix hc256
    simp only [hc] at e0
    have HF : Box _ := ⟨And.intro hfx hix⟩
    clear hfx hix hiff hc
    have hq : ((b.size : Int) != 1 + (n : Int)) = false := by simp; omega
    by_cases h2 : c = k
    · have hq2 : ((c : Int) != (k : Int)) = false := by simp [h2]
      go_enter Tryz.func17, Tryz.ntmps17
      go_wp2
      go_ret2
      rw [HF.out.1, HF.out.2, if_pos h2, decide_eq_true h2]
      exact ⟨by first | rfl | (rw [h1]; rfl), rfl⟩
    · have hq2 : ((c : Int) != (k : Int)) = true := by simp; omega
      go_enter Tryz.func17, Tryz.ntmps17
      go_wp2
      go_ret2
      rw [HF.out.1, HF.out.2, if_neg h2, decide_eq_false h2]
      exact ⟨rfl, rfl⟩
  · have hf : fixedB k n b = ByteArray.empty := by rw [fixedB, if_neg (fun e => h1 (hiff.1 e).1)]
    have hi : isFixed k n b = false := by rw [isFixed, decide_eq_false (fun e => h1 (hiff.1 e).1)]
    have HF : Box _ := ⟨And.intro hf hi⟩
    clear hf hi hiff
    have hq : ((b.size : Int) != 1 + (n : Int)) = true := by simp; omega
    go_enter Tryz.func17, Tryz.ntmps17
    go_wp2
    go_ret2
    rw [HF.out.1, HF.out.2]
    exact ⟨rfl, rfl⟩
end Go.Proofs.YtkcfbipnhnboaaaGreat

namespace Go.Proofs.YtkcfbipnhnboaaaGreat
open Go.RowKit

def proofW : ByteArray := ⟨#[112, 114, 111, 111, 102]⟩
def finishW : ByteArray := ⟨#[102, 105, 110, 105, 115, 104]⟩
def proofB (s p : ByteArray) : ByteArray := hmac s (proofW ++ p)
def finishB (s p : ByteArray) : ByteArray := hmac s (finishW ++ p)
theorem proofB_size (s p : ByteArray) : (proofB s p).size = 32 := hmac_size _ _
theorem finishB_size (s p : ByteArray) : (finishB s p).size = 32 := hmac_size _ _

set_option maxHeartbeats 1000000 in
set_option maxRecDepth 100000 in
theorem proof_any (s p : ByteArray) (w : World) (hs : s.size ≤ 1000000) (hp : p.size ≤ 1000000) : Calls Tryz.prog 49 #[.string s, .string p] w fun e w' => e = .returned (.string (proofB s p)) ∧ Below w.heap.size w w' := by
  have hcc : ¬ (9223372036854775807 < 5 + p.size) := by omega
  have HM : Box (∀ W : World, Calls Tryz.prog 69 #[.string s, .string (⟨#[112, 114, 111, 111, 102]⟩ ++ p)] W fun e w' => e = .returned (.string (proofB s p)) ∧ Below W.heap.size W w') := ⟨fun W => mac_any s (proofW ++ p) W (by omega) (by rw [ByteArray.size_append]; show 5 + p.size ≤ _; omega)⟩
  obtain ⟨o, ho⟩ : ∃ o, proofB s p = o := ⟨_, rfl⟩
  rw [ho] at HM ⊢
  clear ho
  go_enter Tryz.func49, Tryz.ntmps49
  go_wp2_with fail
  refine (HM.out _).mono ?_
  rintro e w1 ⟨rfl, hb1⟩
  have HB1 : Box _ := ⟨hb1⟩
  clear hb1
  go_wp2
  go_ret
  exact ⟨rfl, HB1.out⟩

set_option maxHeartbeats 1000000 in
set_option maxRecDepth 100000 in
theorem finish_any (s p : ByteArray) (w : World) (hs : s.size ≤ 1000000) (hp : p.size ≤ 1000000) : Calls Tryz.prog 54 #[.string s, .string p] w fun e w' => e = .returned (.string (finishB s p)) ∧ Below w.heap.size w w' := by
  have hcc : ¬ (9223372036854775807 < 6 + p.size) := by omega
  have HM : Box (∀ W : World, Calls Tryz.prog 69 #[.string s, .string (⟨#[102, 105, 110, 105, 115, 104]⟩ ++ p)] W fun e w' => e = .returned (.string (finishB s p)) ∧ Below W.heap.size W w') := ⟨fun W => mac_any s (finishW ++ p) W (by omega) (by rw [ByteArray.size_append]; show 6 + p.size ≤ _; omega)⟩
  obtain ⟨o, ho⟩ : ∃ o, finishB s p = o := ⟨_, rfl⟩
  rw [ho] at HM ⊢
  clear ho
  go_enter Tryz.func54, Tryz.ntmps54
  go_wp2_with fail
  refine (HM.out _).mono ?_
  rintro e w1 ⟨rfl, hb1⟩
  have HB1 : Box _ := ⟨hb1⟩
  clear hb1
  go_wp2
  go_ret
  exact ⟨rfl, HB1.out⟩
end Go.Proofs.YtkcfbipnhnboaaaGreat

namespace Go.Proofs.YtkcfbipnhnboaaaGreat
open Go.RowKit

def upOf (s p : ByteArray) : ByteArray := keyOf s (sha256 p) upB
def downOf (s p : ByteArray) : ByteArray := keyOf s (sha256 p) downB

set_option maxHeartbeats 1000000 in
set_option maxRecDepth 100000 in
theorem keys_any (s p : ByteArray) (w : World) (hs : s.size ≤ 1000000) (hp : p.size ≤ 1000000) : Calls Tryz.prog 55 #[.string s, .string p] w fun e w' => e = .returned (.agg #[.string (upOf s p), .string (downOf s p)]) ∧ Below w.heap.size w w' := by
  have hq : (sha256 p).size = 32 := sha256_size p
  have HS : Box (∀ W : World, Calls Tryz.prog 74 #[.string p] W fun e w' => e = .returned (.string (sha256 p)) ∧ Below W.heap.size W w') := ⟨fun W => sum_any p W (by omega)⟩
  have HK : Box (∀ W : World, Calls Tryz.prog 73 #[.string s, .string (sha256 p)] W fun e w' => e = .returned (.agg #[.string (upOf s p), .string (downOf s p)]) ∧ Below W.heap.size W w') := ⟨fun W => session_any s (sha256 p) W hs (by omega)⟩
  obtain ⟨u, hu⟩ : ∃ u, upOf s p = u := ⟨_, rfl⟩
  obtain ⟨d, hd⟩ : ∃ d, downOf s p = d := ⟨_, rfl⟩
  obtain ⟨q, hqq⟩ : ∃ q, sha256 p = q := ⟨_, rfl⟩
  rw [hu, hd, hqq] at HK
  rw [hqq] at HS
  rw [hu, hd]
  clear hu hd hqq hq
  go_enter Tryz.func55, Tryz.ntmps55
  go_wp2_with fail
  refine (HS.out _).mono ?_
  rintro e w1 ⟨rfl, hb1⟩
  have HB1 : Box _ := ⟨hb1⟩
  clear hb1
  go_wp2_with fail
  refine (HK.out _).mono ?_
  rintro e w2 ⟨rfl, hb2⟩
  have hR : Blk w2 w.heap.size 44 #[.string ⟨#[]⟩, .string ⟨#[]⟩] := Blk.below (Blk.below (Blk.new w _) HB1.out) hb2
  have HB2 : Box _ := ⟨And.intro hb2 hR⟩
  have c0 : w2.cell? ⟨w.heap.size, 0, none⟩ = some (.string ⟨#[]⟩) := Blk.cell hR 0
  have c1 : w2.cell? ⟨w.heap.size, 1, none⟩ = some (.string ⟨#[]⟩) := Blk.cell hR 1
  have f0 : w2.frozen? ⟨w.heap.size, 0, none⟩ = false := Blk.free hR 0
  have f1 : w2.frozen? ⟨w.heap.size, 1, none⟩ = false := Blk.free hR 1
  clear hb2 hR
  go_wp2
  have h3 := Blk.set (Blk.set HB2.out.2 0 (.string u)) 1 (.string d)
  refine bodyPost_ret (results_cell_row (P := Tryz.prog) Tryz.results55 _ _ w.heap.size 44 #[.string u, .string d] (0, 0) _ rfl h3 Tryz.underlying44 rfl (by kernel_rfl)) rfl ⟨rfl, ?_⟩
  have s1 := HB1.out.size
  simp at s1
  exact ((((Below.refl w.heap.size w).alloc (Nat.le_refl _) _).trans (HB1.out.mono (by simp))).trans (HB2.out.1.mono (by omega))).setCell (Nat.le_refl _) _ |>.setCell (Nat.le_refl _) _
end Go.Proofs.YtkcfbipnhnboaaaGreat

namespace Go.Proofs.YtkcfbipnhnboaaaGreat
open Go.RowKit

/-- A guest's cells: its name, its secret, its hello, its papers, its step. -/
def guestC (u s h p : ByteArray) (t : Nat) : Array Value := #[.string u, .string s, .string h, .string p, .int .i64 (t : Int)]

set_option maxHeartbeats 1000000 in
set_option maxRecDepth 100000 in
theorem gHello_any (g : Nat) (u s h p : ByteArray) (t : Nat) (w : World) (hb : Blk w g 90 (guestC u s h p t)) : Calls Tryz.prog 24 #[.pointer (some ⟨g, 0, none⟩)] w fun e w' => e = .returned (.string h) ∧ w = w' := by
  have c2 : w.cell? ⟨g, 2, none⟩ = some (.string h) := Blk.cell hb 2
  go_enter Tryz.func24, Tryz.ntmps24
  go_wp2
  go_ret
  exact ⟨rfl, rfl⟩

set_option maxHeartbeats 1000000 in
set_option maxRecDepth 100000 in
theorem gStep_any (g : Nat) (u s h p : ByteArray) (t : Nat) (w : World) (hb : Blk w g 90 (guestC u s h p t)) : Calls Tryz.prog 20 #[.pointer (some ⟨g, 0, none⟩)] w fun e w' => e = .returned (.int .i64 (t : Int)) ∧ w = w' := by
  have c4 : w.cell? ⟨g, 4, none⟩ = some (.int .i64 (t : Int)) := Blk.cell hb 4
  go_enter Tryz.func20, Tryz.ntmps20
  go_wp2_with fail
  refine (i64Load _ _ _ c4).mono ?_
  rintro e w1 ⟨rfl, rfl⟩
  go_wp2
  go_ret
  exact ⟨rfl, rfl⟩

set_option maxHeartbeats 1000000 in
set_option maxRecDepth 100000 in
theorem gStep_nil (w : World) : Calls Tryz.prog 20 #[.pointer none] w fun e w' => e = .returned (.int .i64 0) ∧ w = w' := by
  go_enter Tryz.func20, Tryz.ntmps20
  go_wp2
  go_ret
  exact ⟨rfl, rfl⟩
set_option maxHeartbeats 1000000 in
set_option maxRecDepth 100000 in
theorem gHello_nil (w : World) : Calls Tryz.prog 24 #[.pointer none] w fun e w' => e = .returned (.string ByteArray.empty) ∧ w = w' := by
  go_enter Tryz.func24, Tryz.ntmps24
  go_wp2
  go_ret
  exact ⟨rfl, rfl⟩
set_option maxHeartbeats 1000000 in
set_option maxRecDepth 100000 in
theorem gAt_nil (t : Int) (w : World) : Calls Tryz.prog 45 #[.pointer none, .int .i64 t] w fun e w' => e = .returned (.bool false) ∧ w = w' := by
  go_enter Tryz.func45, Tryz.ntmps45
  go_wp2
  go_ret
  exact ⟨rfl, rfl⟩

set_option maxHeartbeats 1000000 in
set_option maxRecDepth 100000 in
theorem gAt_any (g : Nat) (u s h p : ByteArray) (t m : Nat) (w : World) (hh : 0 < h.size) (hb : Blk w g 90 (guestC u s h p t)) : Calls Tryz.prog 45 #[.pointer (some ⟨g, 0, none⟩), .int .i64 (m : Int)] w fun e w' => e = .returned (.bool (decide (t = m))) ∧ w = w' := by
  have c2 : w.cell? ⟨g, 2, none⟩ = some (.string h) := Blk.cell hb 2
  have hne4 : ¬ h.toList = [] := by
    intro e
    rw [ByteArray.toList_eq] at e
    have : h.size = 0 := by
      have h1 : h.data.toList.length = 0 := by rw [e]; rfl
      rwa [Array.length_toList] at h1
    omega
  have hne3 : h.toList.isEmpty = false := by simp [hne4]
  go_enter Tryz.func45, Tryz.ntmps45
  go_wp2_with fail
  refine (gStep_any g u s h p t _ hb).mono ?_
  rintro e w1 ⟨rfl, rfl⟩
  have hd : ((t : Int) == (m : Int)) = decide (t = m) := by
    by_cases e : t = m
    · subst e; simp
    · rw [decide_eq_false e]; simp only [beq_eq_false_iff_ne, ne_eq]; omega
  go_wp2
  go_ret
  exact ⟨rfl, rfl⟩
end Go.Proofs.YtkcfbipnhnboaaaGreat

namespace Go.Proofs.YtkcfbipnhnboaaaGreat
open Go.RowKit

set_option maxHeartbeats 1000000 in
set_option maxRecDepth 100000 in
theorem papers_any (h b : ByteArray) (w : World) (hh : h.size ≤ 1000000000) (hb : b.size ≤ 1000000000) : Calls Tryz.prog 25 #[.string h, .string b] w fun e w' => e = .returned (.string (h ++ b)) ∧ w = w' := by
  have hcc : ¬ (9223372036854775807 < h.size + b.size) := by omega
  go_enter Tryz.func25, Tryz.ntmps25
  go_wp2
  go_ret
  exact ⟨rfl, rfl⟩

set_option maxHeartbeats 1000000 in
set_option maxRecDepth 100000 in
theorem challenge_state (g : Nat) (u s h p : ByteArray) (t : Nat) (b : ByteArray) (w : World) (hh : 0 < h.size) (ht : t ≠ 0) (hb : Blk w g 90 (guestC u s h p t)) : Calls Tryz.prog 18 #[.pointer (some ⟨g, 0, none⟩), .string b] w fun e w' => e = .returned (.tuple #[.string ByteArray.empty, .int .i64 7]) ∧ w = w' := by
  have hat := gAt_any g u s h p t 0 w hh hb
  rw [decide_eq_false ht] at hat
  have HA : Box (Calls Tryz.prog 45 #[.pointer (some ⟨g, 0, none⟩), .int .i64 0] w fun e w' => e = .returned (.bool false) ∧ w = w') := ⟨hat⟩
  clear hat hb
  go_enter Tryz.func18, Tryz.ntmps18
  go_wp2_with fail
  refine HA.out.mono ?_
  rintro e w1 ⟨rfl, rfl⟩
  go_wp2
  go_ret2
  exact ⟨rfl, rfl⟩

set_option maxHeartbeats 1000000 in
set_option maxRecDepth 100000 in
theorem challenge_nil (b : ByteArray) (w : World) : Calls Tryz.prog 18 #[.pointer none, .string b] w fun e w' => e = .returned (.tuple #[.string ByteArray.empty, .int .i64 7]) ∧ w = w' := by
  have HA : Box (Calls Tryz.prog 45 #[.pointer none, .int .i64 0] w fun e w' => e = .returned (.bool false) ∧ w = w') := ⟨gAt_nil 0 w⟩
  go_enter Tryz.func18, Tryz.ntmps18
  go_wp2_with fail
  refine HA.out.mono ?_
  rintro e w1 ⟨rfl, rfl⟩
  go_wp2
  go_ret2
  exact ⟨rfl, rfl⟩
end Go.Proofs.YtkcfbipnhnboaaaGreat

namespace Go.Proofs.YtkcfbipnhnboaaaGreat
open Go.RowKit

set_option maxHeartbeats 1000000 in
set_option maxRecDepth 100000 in
theorem challenge_form (g : Nat) (u s h p : ByteArray) (b : ByteArray) (w : World) (hh : 0 < h.size) (hbs : b.size ≤ 1000000) (hf : isFixed 2 16 b = false) (hb : Blk w g 90 (guestC u s h p 0)) : Calls Tryz.prog 18 #[.pointer (some ⟨g, 0, none⟩), .string b] w fun e w' => e = .returned (.tuple #[.string ByteArray.empty, .int .i64 2]) ∧ Below w.heap.size w w' := by
  have hat := gAt_any g u s h p 0 0 w hh hb
  rw [decide_eq_true rfl] at hat
  have HA : Box (Calls Tryz.prog 45 #[.pointer (some ⟨g, 0, none⟩), .int .i64 0] w fun e w' => e = .returned (.bool true) ∧ w = w') := ⟨hat⟩
  have HG : Box (∀ W : World, Calls Tryz.prog 46 #[.string b] W fun e w' => e = .returned (.tuple #[.agg #[.string (fixedB 2 16 b)], .bool false]) ∧ Below W.heap.size W w') := ⟨fun W => by have := getChallenge_any b W (by omega); rw [hf] at this; exact this⟩
  obtain ⟨x, hx⟩ : ∃ x, fixedB 2 16 b = x := ⟨_, rfl⟩
  rw [hx] at HG
  clear hat hb hx hf
  go_enter Tryz.func18, Tryz.ntmps18
  go_wp2_with fail
  refine HA.out.mono ?_
  rintro e w1 ⟨rfl, rfl⟩
  go_wp2_with fail
  refine (HG.out _).mono ?_
  rintro e w2 ⟨rfl, hb2⟩
  have HB2 : Box _ := ⟨hb2⟩
  clear hb2
  go_wp2
  go_ret2
  exact ⟨rfl, HB2.out.alloc HB2.out.size _⟩
end Go.Proofs.YtkcfbipnhnboaaaGreat

namespace Go.Proofs.YtkcfbipnhnboaaaGreat
open Go.RowKit

set_option maxHeartbeats 1000000 in
set_option maxRecDepth 100000 in
theorem challenge_yes (g : Nat) (u s h p : ByteArray) (b : ByteArray) (w : World) (hh : 0 < h.size) (hhs : h.size ≤ 100000) (hss : s.size ≤ 100000) (hbs : b.size ≤ 100000) (hf : isFixed 2 16 b = true) (hb : Blk w g 90 (guestC u s h p 0)) : Calls Tryz.prog 18 #[.pointer (some ⟨g, 0, none⟩), .string b] w fun e w' => e = .returned (.tuple #[.string (letterB 3 (proofB s (h ++ b))), .int .i64 0]) ∧ Blk w' g 90 (guestC u s h (h ++ b) 1) ∧ w.grownBy w' (some g) := by
  have hat := gAt_any g u s h p 0 0 w hh hb
  rw [decide_eq_true rfl] at hat
  have HA : Box (Calls Tryz.prog 45 #[.pointer (some ⟨g, 0, none⟩), .int .i64 0] w fun e w' => e = .returned (.bool true) ∧ w = w') := ⟨hat⟩
  have HG : Box (∀ W : World, Calls Tryz.prog 46 #[.string b] W fun e w' => e = .returned (.tuple #[.agg #[.string (fixedB 2 16 b)], .bool true]) ∧ Below W.heap.size W w') := ⟨fun W => by have := getChallenge_any b W (by omega); rw [hf] at this; exact this⟩
  obtain ⟨x, hx⟩ : ∃ x, fixedB 2 16 b = x := ⟨_, rfl⟩
  rw [hx] at HG
  have HBK : Box _ := ⟨hb⟩
  have hgl := Blk.lt hb
  clear hat hb hx hf
  go_enter Tryz.func18, Tryz.ntmps18
  go_wp2_with fail
  refine HA.out.mono ?_
  rintro e w1 ⟨rfl, rfl⟩
  go_wp2_with fail
  refine (HG.out _).mono ?_
  rintro e w2 ⟨rfl, hb2⟩
  have HB2 : Box _ := ⟨hb2⟩
  have hsz2 := hb2.size
  have e2 : (w2.alloc (.cells #[.string x] 94)).cell? ⟨g, 2, none⟩ = some (.string h) := by
    rw [World.cell?_alloc_past _ _ _ (by show g < _; omega)]; exact (hb2.cell (by exact hgl)).trans (Blk.cell HBK.out 2)
  clear hb2
  go_wp2_with fail
  refine (papers_any h b _ (by omega) (by omega)).mono ?_
  rintro e w3 ⟨rfl, hw3⟩
  have h3 : Blk w3 g 90 (guestC u s h p 0) := by rw [← hw3]; exact Blk.alloc (Blk.below HBK.out HB2.out) _
  have hb3 : Below w.heap.size w w3 := by rw [← hw3]; exact HB2.out.alloc HB2.out.size _
  have c3 : w3.cell? ⟨g, 3, none⟩ = some (.string p) := Blk.cell h3 3
  have f3 : w3.frozen? ⟨g, 3, none⟩ = false := Blk.free h3 3
  have h4 : Blk (w3.setCell ⟨g, 3, none⟩ (.string (h ++ b))) g 90 (guestC u s h (h ++ b) 0) := Blk.set h3 3 _
  have H3 : Box _ := ⟨And.intro h3 hb3⟩
  have H4 : Box _ := ⟨h4⟩
  clear h3 hb3 h4 hw3 e2
  go_wp2_with fail
  refine (i64Store ⟨g, 4, none⟩ 1 _ _ (Blk.cell H4.out 4) (Blk.free H4.out 4)).mono ?_
  rintro e w5 ⟨rfl, hw5⟩
  have h5 : Blk w5 g 90 (guestC u s h (h ++ b) 1) := by rw [hw5]; exact Blk.set H4.out 4 _
  have g5 : w.grownBy w5 (some g) := by rw [hw5]; exact grown_set_more (grown_set_more (grown_below H3.out.2 _) 3 _) 4 _
  have d1 : w5.cell? ⟨g, 1, none⟩ = some (.string s) := Blk.cell h5 1
  have d3 : w5.cell? ⟨g, 3, none⟩ = some (.string (h ++ b)) := Blk.cell h5 3
  have H5 : Box _ := ⟨And.intro h5 g5⟩
  obtain ⟨q, hq⟩ : ∃ q, h ++ b = q := ⟨_, rfl⟩
  have hqs : q.size ≤ 1000000 := by rw [← hq, ByteArray.size_append]; omega
  rw [hq] at d3
  have HQ : Box _ := ⟨hq⟩
  have hp := proofB_size s q
  have HPR : Box (∀ W : World, Calls Tryz.prog 49 #[.string s, .string q] W fun e w' => e = .returned (.string (proofB s q)) ∧ Below W.heap.size W w') := ⟨fun W => proof_any s q W (by omega) hqs⟩
  have HPP : Box (∀ W : World, Calls Tryz.prog 48 #[.agg #[.string (proofB s q)]] W fun e w' => e = .returned (.tuple #[.string (letterB 3 (proofB s q)), .bool true]) ∧ Below W.heap.size W w') := ⟨fun W => putProof_any _ W hp⟩
  obtain ⟨m, hm⟩ : ∃ m, proofB s q = m := ⟨_, rfl⟩
  rw [hm] at HPR HPP
  have HM : Box _ := ⟨hm⟩
  clear hw5 h5 g5 hp hm
  go_wp2_with fail
  go_region_with (first | (go_at_call 49; refine (HPR.out _).mono ?_; rintro e w6 ⟨rfl, hb6⟩; have HB6 : Box _ := ⟨hb6⟩) | (go_at_call 48; refine (HPP.out _).mono ?_; rintro e w7 ⟨rfl, hb7⟩; have HB7 : Box _ := ⟨hb7⟩))
  all_goals
    go_wp2
    go_ret2
    have hd5 : Below w5.heap.size w5 w6 := by first | exact HB6.out | exact (Below.drew (Below.refl _ _)).trans HB6.out
    have hd7 : Below w5.heap.size w5 _ := hd5.trans (HB7.out.mono hd5.size)
    refine ⟨by rw [HQ.out, HM.out]; rfl, Blk.below H5.out.1 hd7, grown_trans H5.out.2 (grown_below hd7 none) (by simp)⟩
end Go.Proofs.YtkcfbipnhnboaaaGreat
