/- sync.Mutex, sync.Once and sync/atomic in one goroutine: each method's contract over this translation. -/
import Derived.Test.YtdmdkkdkmmkalaaGreatBase
import Derived.Conc.MuLone
import Derived.Defers
import Derived.Laws.LoneSync
import Derived.RegionCalls
namespace Go.Proofs.YtdmdkkdkmmkalaaGreat
open Go.RowKit Go.MuLone

abbrev muLink : Go.Conc.Locks.MuLink := { lock := 82, unlock := 83, ilock := 87, iunlock := 88, lockSlow := 95, unlockSlow := 98, disable := 91, enable := 93, acquire := 94, relMerge := 96, cas32 := 92, add32 := 97, tMutex := 52, tIMutex := 50, tPMutex := 138, tPIMutex := 141, tPI32 := 143, tUP := 135, tNoCopy := 44, tU32 := 46 }
theorem muLib : Go.Conc.Locks.MuLib Tryz.prog muLink :=
  ⟨Tryz.func82, Tryz.func83, Tryz.func87, Tryz.func88, Tryz.func91, Tryz.func93, Tryz.func94, Tryz.func96, Tryz.func92, Tryz.func97, Tryz.underlying50, Tryz.runUnderlying50, Tryz.sizeOf50, Tryz.isAgg50, Tryz.zeroValue50, Tryz.underlying52, Tryz.runUnderlying52, Tryz.sizeOf52, Tryz.isAgg52, Tryz.zeroValue52, Tryz.underlying138, Tryz.runUnderlying138, Tryz.sizeOf138, Tryz.isAgg138, Tryz.zeroValue138, Tryz.underlying141, Tryz.runUnderlying141, Tryz.sizeOf141, Tryz.isAgg141, Tryz.zeroValue141, Tryz.underlying143, Tryz.runUnderlying143, Tryz.sizeOf143, Tryz.isAgg143, Tryz.zeroValue143, Tryz.underlying135, Tryz.runUnderlying135, Tryz.sizeOf135, Tryz.isAgg135, Tryz.zeroValue135, Tryz.underlying44, Tryz.runUnderlying44, Tryz.sizeOf44, Tryz.isAgg44, Tryz.zeroValue44, Tryz.underlying21, Tryz.runUnderlying21, Tryz.sizeOf21, Tryz.isAgg21, Tryz.zeroValue21, by kernel_rfl⟩

/-- (*atomic.Bool).Load. -/
theorem boolLoad (a : Addr) (d : Int) (w : World) (h0 : w.cell? a = some (.int .u32 d)) :
    Calls Tryz.prog 72 #[.pointer (some a)] w fun e w' => e = .returned (.bool (d != 0)) ∧ w = w' := by
  have hl := run_call_load (P := Tryz.prog) Tryz.func81 (by kernel_rfl) (by kernel_rfl) (by kernel_rfl) .u32 (by kernel_rfl) h0
  go_enter Tryz.func72, Tryz.ntmps72
  go_wp2
  go_ret
  exact ⟨rfl, rfl⟩

/-- '(*sync/atomic.Bool).Store(true)', entered as a deferred call: the cell holds 1. -/
theorem store_deferred (a : Addr) (x : Value) (u : FrameMode) (w : World) (hc : w.cell? a = some x) (hz : w.frozen? a = false) :
    CallsD Tryz.prog 84 #[.pointer (some a), .bool true] u w fun e u' w' => u' = u ∧ (e = .returned (.tuple #[]) ∧ w' = w.drew.setCell a (.int .u32 1)) := by
  have hc' : w.drew.cell? a = some x := by go_simp
  have hz' : w.drew.frozen? a = false := by go_simp
  have hst := run_call_store (P := Tryz.prog) Tryz.func89 (by kernel_rfl) (by kernel_rfl) (by kernel_rfl) (by kernel_rfl) (k := .u32) (y := 1) hc' hz'
  go_enter_d Tryz.func84, Tryz.ntmps84
  go_wp2
  go_region_calls
  all_goals (go_end0; exact ⟨rfl, rfl⟩)

/-- What the function that Do calls must leave. -/
def OnceMid (b off : Nat) (Q : World → Prop) (e : Ending) (w2 : World) : Prop :=
  e = .returned (.tuple #[]) ∧ w2.cell? ⟨b, off, none⟩ = some (.int .u32 0) ∧ w2.frozen? ⟨b, off, none⟩ = false ∧ w2.cell? ⟨b, off + 1, none⟩ = some (.int .i32 1) ∧ w2.frozen? ⟨b, off + 1, none⟩ = false ∧ Q w2
/-- How Do leaves the world. -/
def OnceEnd (b off : Nat) (Q : World → Prop) (e : Ending) (w' : World) : Prop :=
  e = .returned (.tuple #[]) ∧ ∃ w2, Q w2 ∧ w' = (w2.drew.setCell ⟨b, off, none⟩ (.int .u32 1)).setCell ⟨b, off + 1, none⟩ (.int .i32 0)

set_option maxRecDepth 100000 in
set_option maxHeartbeats 1600000 in
theorem slow_any (b off : Nat) (K : FuncId) (caps : Array Value) (Q : World → Prop) (w : World)
    (h0 : w.cell? ⟨b, off, none⟩ = some (.int .u32 0)) (h1 : w.cell? ⟨b, off + 1, none⟩ = some (.int .i32 0)) (f1 : w.frozen? ⟨b, off + 1, none⟩ = false)
    (hcf : ∀ w, (callFunc K caps).run Tryz.prog w = .ok (.enter K caps) w)
    (hK : Calls Tryz.prog K caps (w.setCell ⟨b, off + 1, none⟩ (.int .i32 1)) (OnceMid b off Q)) :
    Calls Tryz.prog 73 #[.pointer (some ⟨b, off, none⟩), .func (.func K) #[] caps] w (OnceEnd b off Q) := by
  have hl : (w.setCell ⟨b, off + 1, none⟩ (.int .i32 1)).cell? ⟨b, off, none⟩ = some (.int .u32 0) := (World.cell?_setCell_other _ ⟨b, off + 1, none⟩ ⟨b, off, none⟩ _ (by simp)).trans h0
  have hnot : ∀ (x : Bool) (w : World), (Op.unary .not (.bool x)).run Tryz.prog w = .ok (.bool (!x)) w := fun _ _ => rfl
  go_enter_defers Tryz.func73, Tryz.ntmps73
  go_wp2_with (first | (go_at_call 82; refine (lock_free muLib ⟨b, off + 1, none⟩ _ h1 f1).mono ?_; rintro e w' ⟨rfl, rfl⟩) | (go_at_call 72; refine (boolLoad ⟨b, off, none⟩ 0 _ hl).mono ?_; rintro e w' ⟨rfl, rfl⟩))
  refine hK.mono ?_
  rintro e w2 ⟨rfl, g0, z0, g1, z1, hQ⟩
  go_wp2
  refine leaves_cons (f := 84) (args := #[.pointer (some ⟨b, off, none⟩), .bool true]) (by simp) (by simp [go_sem]) ?_
  refine (store_deferred ⟨b, off, none⟩ _ .returning _ g0 z0).mono ?_
  rintro e u' w'' ⟨rfl, rfl, rfl⟩
  refine leaves_cons (f := 83) (args := #[.pointer (some ⟨b, off + 1, none⟩)]) (by simp [settle]) (by simp [go_sem]) ?_
  refine (unlock_deferred muLib ⟨b, off + 1, none⟩ _ _ ?_ (by simp [z1])).mono ?_
  · refine (World.cell?_setCell_other _ ⟨b, off, none⟩ ⟨b, off + 1, none⟩ _ (by simp)).trans ?_
    rw [World.cell?_drew]
    exact g1
  rintro e u' w'' ⟨rfl, rfl, rfl⟩
  simp [Leaves, settle, results, Tryz.results73, OnceEnd]
  exact ⟨w2, hQ, rfl⟩

set_option maxRecDepth 100000 in
set_option maxHeartbeats 1600000 in
/-- Once.Do, the first time. -/
theorem do_first (b off : Nat) (K : FuncId) (caps : Array Value) (Q : World → Prop) (w : World)
    (h0 : w.cell? ⟨b, off, none⟩ = some (.int .u32 0)) (h1 : w.cell? ⟨b, off + 1, none⟩ = some (.int .i32 0)) (f1 : w.frozen? ⟨b, off + 1, none⟩ = false)
    (hcf : ∀ w, (callFunc K caps).run Tryz.prog w = .ok (.enter K caps) w)
    (hK : Calls Tryz.prog K caps (w.setCell ⟨b, off + 1, none⟩ (.int .i32 1)) (OnceMid b off Q)) :
    Calls Tryz.prog 51 #[.pointer (some ⟨b, off, none⟩), .func (.func K) #[] caps] w (OnceEnd b off Q) := by
  have hnot : ∀ (x : Bool) (w : World), (Op.unary .not (.bool x)).run Tryz.prog w = .ok (.bool (!x)) w := fun _ _ => rfl
  go_enter Tryz.func51, Tryz.ntmps51
  go_wp2_with (go_at_call 72; refine (boolLoad ⟨b, off, none⟩ 0 _ h0).mono ?_; rintro e w' ⟨rfl, rfl⟩)
  refine (slow_any b off K caps Q _ h0 h1 f1 hcf hK).mono ?_
  rintro e w' ⟨rfl, hw⟩
  go_wp2
  go_end0
  exact ⟨rfl, hw⟩

/-- Once.Do, done already: the function is not called. -/
theorem do_done (a : Addr) (fv : Value) (w : World) (h0 : w.cell? a = some (.int .u32 1)) :
    Calls Tryz.prog 51 #[.pointer (some a), fv] w fun e w' => e = .returned (.tuple #[]) ∧ w = w' := by
  have hnot : ∀ (x : Bool) (w : World), (Op.unary .not (.bool x)).run Tryz.prog w = .ok (.bool (!x)) w := fun _ _ => rfl
  go_enter Tryz.func51, Tryz.ntmps51
  go_wp2_with (go_at_call 72; refine (boolLoad a 1 _ h0).mono ?_; rintro e w' ⟨rfl, rfl⟩)
  go_end0
  exact ⟨rfl, rfl⟩
end Go.Proofs.YtdmdkkdkmmkalaaGreat
