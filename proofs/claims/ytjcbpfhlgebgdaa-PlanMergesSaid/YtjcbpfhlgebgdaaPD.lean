import Derived.Test.YtjcbpfhlgebgdaaXL
import Derived.Shelf.SlSortCmp.Insertion
import Derived.Test.YtjcbpfhlgebgdaaXGCmp
import Derived.Shelf.SlSortCmp.NoneTotal
import Derived.Ground.SlsfProg
import Derived.Shelf.SlGeneric
import Derived.Test.YtjcbpfhlgebgdaaChecked
import Derived.WalkKit
import Derived.Lib.Walk
import Derived.OwnWalk
import Derived.Deep.RegionHeld3
import Derived.Deep.DrawnRows
import Derived.Sort.Grow
import Derived.Test.YtjcbpfhlgebgdaaX4S
set_option linter.unusedSimpArgs false
set_option linter.unusedVariables false
namespace Go.Proofs.Ytjcbpfhlgebgdaa
open Go.X Go.Eng
def cmpI (a b : Int) : Int := if a < b then -1 else if b < a then 1 else 0
theorem cmpI_w (a b : Int) : cmp_Compare (a, b) = some (cmpI a b) := by
  have hn : ∀ x, cmp_isNaN x = some false := fun x => by unfold cmp_isNaN; simp
  unfold cmp_Compare cmpI
  simp only [hn, Option.bind_some, br, cond_false]
  by_cases h1 : a < b
  · simp [h1]
  · by_cases h2 : b < a <;> simp [h1, h2]
def orI (a b c : Int) : Int := if a ≠ 0 then a else if b ≠ 0 then b else c
theorem or_w (a b c : Int) : cmp_Or [a, b, c] = some (orI a b c) := by
  refine W.eq ?_
  unfold cmp_Or
  refine W_loop (fun i : Int => i = 0 ∨ (i = 1 ∧ a = 0) ∨ (i = 2 ∧ a = 0 ∧ b = 0) ∨ (i = 3 ∧ a = 0 ∧ b = 0 ∧ c = 0)) (fun i => 3 - i.toNat) ?_ (by omega)
  intro i hi
  refine W_if (fun h1 => ?_) (fun h1 => ?_)
  · rcases hi with rfl | ⟨rfl, h⟩ | ⟨rfl, h, h'⟩ | ⟨rfl, _⟩
    · refine W_eq (a := a) rfl ?_
      refine W_if (fun h2 => W_done (W_ret ?_)) (fun h2 => ?_)
      · unfold orI; rw [if_pos h2]
      · refine W_op fun c hc => W_next (by dsimp only; omega)
    · refine W_eq (a := b) rfl ?_
      refine W_if (fun h2 => W_done (W_ret ?_)) (fun h2 => ?_)
      · unfold orI; rw [if_neg (by omega), if_pos h2]
      · refine W_op fun c hc => W_next (by dsimp only; omega)
    · refine W_eq (a := c) rfl ?_
      refine W_if (fun h2 => W_done (W_ret ?_)) (fun h2 => ?_)
      · unfold orI; rw [if_neg (by omega), if_neg (by omega)]
      · refine W_op fun c hc => W_next (by dsimp only; omega)
    · simp at h1
  · simp only [List.length_cons, List.length_nil] at h1
    refine W_done (W_ret ?_)
    unfold orI
    rw [if_neg (by omega), if_neg (by omega)]
    omega
def cmpC (a b : Contact) : Int := orI (cmpI a.Start b.Start) (cmpI a.From b.From) (cmpI a.To b.To)
theorem compare_w (a b : Contact) : plan_compare (a, b) = some (cmpC a b) := by
  unfold plan_compare
  simp only [cmpI_w, Option.bind_some, or_w]
  rfl
theorem cmpC_lt (a b : Contact) : cmpC a b < 0 ↔ a.Start < b.Start ∨ (a.Start = b.Start ∧ (a.From < b.From ∨ (a.From = b.From ∧ a.To < b.To))) := by
  unfold cmpC orI cmpI
  (repeat' split) <;> omega
theorem swo : Go.Sort.SWO (Go.Proofs.ltOf cmpC) where
  irrefl x := by simp [Go.Proofs.ltOf, cmpC_lt]
  trans x y z h1 h2 := by simp only [Go.Proofs.ltOf, decide_eq_true_eq, cmpC_lt] at *; omega
  ntrans x y z h1 h2 := by simp only [Go.Proofs.ltOf, decide_eq_false_iff_not, cmpC_lt] at *; omega
end Go.Proofs.Ytjcbpfhlgebgdaa
namespace Go.Proofs
open Go.Shelf
def Try.sortL_ren : Go.Shelf.Ren := ⟨fun | 6 => 21 | 15 => 37 | 14 => 36 | 28 => 52 | 29 => 53 | 20 => 44 | 21 => 45 | 22 => 46 | 23 => 47 | 24 => 48 | 25 => 49 | 26 => 50 | 27 => 51 | 46 => 55 | 47 => 56 | 48 => 57 | 49 => 58 | 50 => 59 | 57 => 60 | n => n, fun | 22 => 22 | 24 => 35 | 25 => 47 | 3 => 3 | 39 => 64 | 0 => 0 | 53 => 76 | 55 => 78 | 4 => 4 | 46 => 69 | 45 => 68 | 50 => 73 | 5 => 5 | 9 => 9 | 66 => 80 | 70 => 84 | 76 => 86 | 77 => 87 | n => n, fun | n => n⟩
theorem Try.sortL : Go.Proofs.SlLaysF0.n6 Try.prog Try.sortL_ren := {
  mixed := by kernel_rfl
  f6 := ⟨Try.f21.name, by decide, Try.func21.trans (congrArg some (by kernel_rfl))⟩
  f14 := ⟨Try.f36.name, by decide, Try.func36.trans (congrArg some (by kernel_rfl))⟩
  f15 := Try.func37.trans (congrArg some (by kernel_rfl))
  f20 := ⟨Try.f44.name, by decide, Try.func44.trans (congrArg some (by kernel_rfl))⟩
  f21 := ⟨Try.f45.name, by decide, Try.func45.trans (congrArg some (by kernel_rfl))⟩
  f22 := ⟨Try.f46.name, by decide, Try.func46.trans (congrArg some (by kernel_rfl))⟩
  f23 := ⟨Try.f47.name, by decide, Try.func47.trans (congrArg some (by kernel_rfl))⟩
  f24 := ⟨Try.f48.name, by decide, Try.func48.trans (congrArg some (by kernel_rfl))⟩
  f25 := ⟨Try.f49.name, by decide, Try.func49.trans (congrArg some (by kernel_rfl))⟩
  f26 := ⟨Try.f50.name, by decide, Try.func50.trans (congrArg some (by kernel_rfl))⟩
  f27 := ⟨Try.f51.name, by decide, Try.func51.trans (congrArg some (by kernel_rfl))⟩
  f28 := Try.func52.trans (congrArg some (by kernel_rfl))
  f29 := Try.func53.trans (congrArg some (by kernel_rfl))
  f46 := ⟨Try.f55.name, by decide, Try.func55.trans (congrArg some (by kernel_rfl))⟩
  f47 := Try.func56.trans (congrArg some (by kernel_rfl))
  f48 := Try.func57.trans (congrArg some (by kernel_rfl))
  f49 := ⟨Try.f58.name, by decide, Try.func58.trans (congrArg some (by kernel_rfl))⟩
  f50 := ⟨Try.f59.name, by decide, Try.func59.trans (congrArg some (by kernel_rfl))⟩
  f57 := ⟨Try.f60.name, by decide, Try.func60.trans (congrArg some (by kernel_rfl))⟩
  t0 := Try.underlying0
  a0 := Try.isAgg0
  z0 := Try.sizeOf0
  v0 := Try.zeroValue0
  t3 := Try.underlying3
  a3 := Try.isAgg3
  z3 := Try.sizeOf3
  v3 := Try.zeroValue3
  t4 := Try.underlying4
  a4 := Try.isAgg4
  z4 := Try.sizeOf4
  v4 := Try.zeroValue4
  t5 := Try.underlying5
  a5 := Try.isAgg5
  z5 := Try.sizeOf5
  v5 := Try.zeroValue5
  t9 := Try.underlying9
  a9 := Try.isAgg9
  z9 := Try.sizeOf9
  v9 := Try.zeroValue9
  t22 := Try.underlying22
  a22 := Try.isAgg22
  z22 := Try.sizeOf22
  v22 := Try.zeroValue22
  t25 := Try.underlying47
  a25 := Try.isAgg47
  z25 := Try.sizeOf47
  v25 := Try.zeroValue47
  t39 := Try.underlying64
  a39 := Try.isAgg64
  z39 := Try.sizeOf64
  v39 := Try.zeroValue64
  t45 := Try.underlying68
  a45 := Try.isAgg68
  z45 := Try.sizeOf68
  v45 := Try.zeroValue68
  t46 := Try.underlying69
  a46 := Try.isAgg69
  z46 := Try.sizeOf69
  v46 := Try.zeroValue69
  t50 := Try.underlying73
  a50 := Try.isAgg73
  z50 := Try.sizeOf73
  v50 := Try.zeroValue73
  t53 := Try.underlying76
  a53 := Try.isAgg76
  z53 := Try.sizeOf76
  v53 := Try.zeroValue76
  t55 := Try.underlying78
  a55 := Try.isAgg78
  z55 := Try.sizeOf78
  v55 := Try.zeroValue78
  t66 := Try.underlying80
  a66 := Try.isAgg80
  z66 := Try.sizeOf80
  v66 := Try.zeroValue80
  t70 := Try.underlying84
  a70 := Try.isAgg84
  z70 := Try.sizeOf84
  v70 := Try.zeroValue84
  t76 := Try.underlying86
  a76 := Try.isAgg86
  z76 := Try.sizeOf86
  v76 := Try.zeroValue86
  t77 := Try.underlying87
  a77 := Try.isAgg87
  z77 := Try.sizeOf87
  v77 := Try.zeroValue87 }
end Go.Proofs
namespace Go.Seq
open Go.RowKit Go.Shelf Go.Proofs Go.X Go.Proofs.Ytjcbpfhlgebgdaa
theorem nan_in (a : Int) (w : World) : Calls Try.prog 54 #[.int .i64 a] w fun e w' => e = .returned (.bool false) ∧ w' = w := by
  go_enter Try.func54, Try.ntmps54
  go_wp2
  go_ret
  exact ⟨by first | rfl | simp, rfl⟩
theorem cmp_in (a b : Int) (w : World) : Calls Try.prog 39 #[.int .i64 a, .int .i64 b] w fun e w' => e = .returned (.int .i64 (cmpI a b)) ∧ w' = w := by
  rcases Int.lt_trichotomy a b with h | h | h
  · have e : cmpI a b = -1 := by unfold cmpI; rw [if_pos h]
    rw [e]
    go_enter Try.func39, Try.ntmps39
    go_wp2_with (go_at_call 54; refine (nan_in _ _).mono ?_; rintro e w' ⟨rfl, rfl⟩)
    go_ret
    exact ⟨rfl, rfl⟩
  · have e : cmpI a b = 0 := by unfold cmpI; rw [if_neg (by omega), if_neg (by omega)]
    have h1 : ¬ a < b := by omega
    have h2 : ¬ b < a := by omega
    rw [e]
    go_enter Try.func39, Try.ntmps39
    go_wp2_with (go_at_call 54; refine (nan_in _ _).mono ?_; rintro e w' ⟨rfl, rfl⟩)
    go_ret
    exact ⟨rfl, rfl⟩
  · have e : cmpI a b = 1 := by unfold cmpI; rw [if_neg (by omega), if_pos h]
    have h1 : ¬ a < b := by omega
    rw [e]
    go_enter Try.func39, Try.ntmps39
    go_wp2_with (go_at_call 54; refine (nan_in _ _).mono ?_; rintro e w' ⟨rfl, rfl⟩)
    go_ret
    exact ⟨rfl, rfl⟩
theorem or_in (a b c : Int) (g : Nat) (w : World) (h0 : w.cell? ⟨g, 0, none⟩ = some (.int .i64 a)) (h1 : w.cell? ⟨g, 1, none⟩ = some (.int .i64 b)) (h2 : w.cell? ⟨g, 2, none⟩ = some (.int .i64 c)) :
    Calls Try.prog 38 #[.slice (some ⟨g, 0, none⟩) 3 3] w fun e w' => e = .returned (.int .i64 (orI a b c)) ∧ w' = w := by
  obtain ⟨r, hr⟩ : ∃ r, orI a b c = r := ⟨_, rfl⟩
  rw [hr]
  unfold orI at hr
  go_enter Try.func38, Try.ntmps38
  go_wp2
  go_loopw [8] (fun v8 wr => wr = w ∧ (v8 = .int .i64 0 ∨ (v8 = .int .i64 1 ∧ a = 0) ∨ (v8 = .int .i64 2 ∧ a = 0 ∧ b = 0) ∨ (v8 = .int .i64 3 ∧ a = 0 ∧ b = 0 ∧ c = 0))) (fun v8 wr => (3 - RowKit.intOf v8).toNat)
  case atStart => exact ⟨rfl, .inl rfl⟩
  case round =>
    obtain ⟨hW, h⟩ := hrel
    have hW := hW.symm
    subst hW
    have hq1 : IntKind.i64.wrap (1 + 1) = 2 := by decide
    have hq2 : IntKind.i64.wrap (2 + 1) = 3 := by decide
    rcases h with rfl | ⟨rfl, rfl⟩ | ⟨rfl, rfl, rfl⟩ | ⟨rfl, rfl, rfl, rfl⟩
    · by_cases ha : a = 0
      · subst ha
        go_wp2
        refine ⟨by simp, ?_⟩
        simp only [RowKit.intOf]
        decide
      · rw [if_pos ha] at hr
        subst hr
        have hb : (a != 0) = true := bne_iff_ne.2 ha
        go_wp2
        all_goals first | exact absurd ‹a = 0› ha | skip
        go_ret
        exact ⟨rfl, rfl⟩
    · by_cases ha : b = 0
      · subst ha
        go_wp2
        refine ⟨by simp, ?_⟩
        simp only [RowKit.intOf]
        decide
      · rw [if_neg (by simp), if_pos ha] at hr
        subst hr
        have hb : (b != 0) = true := bne_iff_ne.2 ha
        go_wp2
        all_goals first | exact absurd ‹b = 0› ha | skip
        go_ret
        exact ⟨rfl, rfl⟩
    · by_cases ha : c = 0
      · subst ha
        go_wp2
        refine ⟨by simp, ?_⟩
        simp only [RowKit.intOf]
        decide
      · rw [if_neg (by simp), if_neg (by simp)] at hr
        subst hr
        have hb : (c != 0) = true := bne_iff_ne.2 ha
        go_wp2
        all_goals first | exact absurd ‹c = 0› ha | skip
        go_ret
        exact ⟨rfl, rfl⟩
    · have hr' : r = 0 := by rw [← hr]; simp
      subst hr'
      go_wp2
      go_ret
      exact ⟨rfl, rfl⟩
theorem or_at (a b c : Int) {W : World} {M : Nat} (hM : W.heap.size = M) : Calls Try.prog 38 #[.slice (some ⟨M, 0, none⟩) 3 3] (W.drew.alloc (.cells #[.int .i64 a, .int .i64 b, .int .i64 c] 3)) fun e w' => e = .returned (.int .i64 (orI a b c)) ∧ w' = W.drew.alloc (.cells #[.int .i64 a, .int .i64 b, .int .i64 c] 3) := by
  have h : (W.drew.alloc (.cells #[.int .i64 a, .int .i64 b, .int .i64 c] 3)).heap[M]? = some (.cells #[.int .i64 a, .int .i64 b, .int .i64 c] 3 (0, 0)) := by
    rw [← hM]; exact (MapKept.heap_alloc W.drew _).1
  exact or_in a b c M _ (by simp [World.cell?, h]) (by simp [World.cell?, h]) (by simp [World.cell?, h])
set_option maxHeartbeats 4000000 in
set_option maxRecDepth 100000 in
theorem compare_in (x y : Contact) (W : World) : Calls Try.prog 22 #[.agg #[.int .i64 x.From, .int .i64 x.To, .int .i64 x.Start, .int .i64 x.End, .int .i64 x.Rate, .int .i64 x.Delay], .agg #[.int .i64 y.From, .int .i64 y.To, .int .i64 y.Start, .int .i64 y.End, .int .i64 y.Rate, .int .i64 y.Delay]] W
    fun en w' => en = .returned (.int .i64 (cmpC x y)) ∧ ∃ q os', w' = Go.Sort.grow (W.drewN q) os' := by
  have mixed : Try.prog.follows .mixedOrders = true := by kernel_rfl
  obtain ⟨N, hN⟩ : ∃ N, W.heap.size = N := ⟨_, rfl⟩
  go_enter Try.func22, Try.ntmps22
  go_wp2
  have b0 : (((W.alloc (.cells #[.int .i64 x.From, .int .i64 x.To, .int .i64 x.Start, .int .i64 x.End, .int .i64 x.Rate, .int .i64 x.Delay] 35)).alloc (.cells #[.int .i64 y.From, .int .i64 y.To, .int .i64 y.Start, .int .i64 y.End, .int .i64 y.Rate, .int .i64 y.Delay] 35))).heap[N]? = some (.cells #[.int .i64 x.From, .int .i64 x.To, .int .i64 x.Start, .int .i64 x.End, .int .i64 x.Rate, .int .i64 x.Delay] 35 (0, 0)) := by
    rw [Below.heap_alloc _ _ _ (by simp [hN]), ← hN]
    exact (MapKept.heap_alloc W _).1
  have b1 : (((W.alloc (.cells #[.int .i64 x.From, .int .i64 x.To, .int .i64 x.Start, .int .i64 x.End, .int .i64 x.Rate, .int .i64 x.Delay] 35)).alloc (.cells #[.int .i64 y.From, .int .i64 y.To, .int .i64 y.Start, .int .i64 y.End, .int .i64 y.Rate, .int .i64 y.Delay] 35))).heap[N + 1]? = some (.cells #[.int .i64 y.From, .int .i64 y.To, .int .i64 y.Start, .int .i64 y.End, .int .i64 y.Rate, .int .i64 y.Delay] 35 (0, 0)) := by
    have := (MapKept.heap_alloc (W.alloc (.cells #[.int .i64 x.From, .int .i64 x.To, .int .i64 x.Start, .int .i64 x.End, .int .i64 x.Rate, .int .i64 x.Delay] 35)) (.cells #[.int .i64 y.From, .int .i64 y.To, .int .i64 y.Start, .int .i64 y.End, .int .i64 y.Rate, .int .i64 y.Delay] 35)).1
    simpa [hN] using this
  have hs : (((W.alloc (.cells #[.int .i64 x.From, .int .i64 x.To, .int .i64 x.Start, .int .i64 x.End, .int .i64 x.Rate, .int .i64 x.Delay] 35)).alloc (.cells #[.int .i64 y.From, .int .i64 y.To, .int .i64 y.Start, .int .i64 y.End, .int .i64 y.Rate, .int .i64 y.Delay] 35))).heap.size = N + 2 := by simp [hN]
  have hg : ∃ os, ((W.alloc (.cells #[.int .i64 x.From, .int .i64 x.To, .int .i64 x.Start, .int .i64 x.End, .int .i64 x.Rate, .int .i64 x.Delay] 35)).alloc (.cells #[.int .i64 y.From, .int .i64 y.To, .int .i64 y.Start, .int .i64 y.End, .int .i64 y.Rate, .int .i64 y.Delay] 35)) = Go.Sort.grow W os := ⟨_, by rw [Go.Sort.alloc_eq_grow, Go.Sort.alloc_eq_grow, Go.Sort.grow_grow]⟩
  obtain ⟨W2, hW2⟩ : ∃ W2, (W.alloc (.cells #[.int .i64 x.From, .int .i64 x.To, .int .i64 x.Start, .int .i64 x.End, .int .i64 x.Rate, .int .i64 x.Delay] 35)).alloc (.cells #[.int .i64 y.From, .int .i64 y.To, .int .i64 y.Start, .int .i64 y.End, .int .i64 y.Rate, .int .i64 y.Delay] 35) = W2 := ⟨_, rfl⟩
  rw [hW2] at b0 b1 hs hg ⊢
  obtain ⟨os, hg0⟩ := hg
  obtain ⟨hg⟩ : Nonempty (Shut (W2 = Go.Sort.grow W os)) := ⟨hg0⟩
  clear hg0
  have c0 : W2.cell? ⟨N, 0, none⟩ = some (.int .i64 x.From) := by simp [World.cell?, b0]
  have c1 : W2.cell? ⟨N, 1, none⟩ = some (.int .i64 x.To) := by simp [World.cell?, b0]
  have c2 : W2.cell? ⟨N, 2, none⟩ = some (.int .i64 x.Start) := by simp [World.cell?, b0]
  have d0 : W2.cell? ⟨N + 1, 0, none⟩ = some (.int .i64 y.From) := by simp [World.cell?, b1]
  have d1 : W2.cell? ⟨N + 1, 1, none⟩ = some (.int .i64 y.To) := by simp [World.cell?, b1]
  have d2 : W2.cell? ⟨N + 1, 2, none⟩ = some (.int .i64 y.Start) := by simp [World.cell?, b1]
  clear b0 b1 hW2 hN
  go_region_held3 (fun w' => w'.cell? ⟨N, 0, none⟩ = some (.int .i64 x.From) ∧ w'.cell? ⟨N, 1, none⟩ = some (.int .i64 x.To) ∧ w'.cell? ⟨N, 2, none⟩ = some (.int .i64 x.Start) ∧ w'.cell? ⟨N + 1, 0, none⟩ = some (.int .i64 y.From) ∧ w'.cell? ⟨N + 1, 1, none⟩ = some (.int .i64 y.To) ∧ w'.cell? ⟨N + 1, 2, none⟩ = some (.int .i64 y.Start)) (go_keep)
    (first | (go_at_call 39; refine (cmp_in _ _ _).mono ?_; rintro e w' ⟨rfl, rfl⟩) | (go_at_call 38; refine (or_at (cmpI x.Start y.Start) (cmpI x.From y.From) (cmpI x.To y.To) hs).mono ?_; rintro e w' ⟨rfl, rfl⟩))
  all_goals go_wp2
  all_goals go_ret
  all_goals refine ⟨rfl, 1, os ++ #[.cells #[.int .i64 (cmpI x.Start y.Start), .int .i64 (cmpI x.From y.From), .int .i64 (cmpI x.To y.To)] 3 (0, 0)], ?_⟩
  all_goals rw [hg.out, Go.Sort.alloc_eq_grow]
  all_goals rw [Go.Sort.grow_grow]
  all_goals rfl
end Go.Seq
namespace Go.X
open Go.Eng
open Go.RowKit Go.Proofs Go.Shelf Go.Lib Go.Sort
variable {P : Program} {ρ : Ren} {α : Type} [Inhabited α]
set_option maxHeartbeats 1000000 in
theorem Sorts.of_walk (L : SlLaysF0.n6 P ρ) (k : Nat) (aE : ∀ w, (Go.isAgg (ρ.t 24)).run P w = .ok true w) (zE : ∀ w, (Go.sizeOf (ρ.t 24)).run P w = .ok k w) (enc : α → V) (encL : α → List Value) (hk : ∀ x, (encL x).length = k) (h1 : ∀ x, ∀ v ∈ encL x, v.oneCell' = true)
    (hR : ∀ (E : Env) x v, R E (enc x) v ↔ v = .agg (encL x).toArray) (cf : α → α → Int) (hO : SWO (ltOf cf)) (g : Nat) (eg : ∀ args w, (callFunc g args).run P w = .ok (.enter g args) w)
    (hfn : ∀ (x y : α) (W : World), Calls P g #[.agg (encL x).toArray, .agg (encL y).toArray] W fun en w' => en = .returned (.int .i64 (cf x y)) ∧ ∃ q os', w' = grow (W.drewN q) os') :
    Sorts P (ρ.f 6) (some g) enc k (fun d => (pdq (ltOf cf) d.toArray 0 d.length (Lib.bitLen d.length) true true).toList) := by
  have hperm : ∀ d : Array α, PermIn 0 d.size d (pdq (ltOf cf) d 0 d.size (Lib.bitLen d.size) true true) := fun d => (pdq_sorts (ltOf cf) hO d 0 d.size (Lib.bitLen d.size) true true (Nat.zero_le _) (Nat.le_refl _) (Or.inl rfl)).1
  refine ⟨?_, ?_, ?_⟩
  · intro w pr base cap hl
    refine (AnyF.slices_SortFunc_none L base cap _ w).mono ?_
    rintro en w' ⟨rfl, rfl⟩
    exact ⟨rfl, Below.refl _ _, DLE.refl _⟩
  · intro w pr lam blk cap d cur e hl hgl hne hcp hm hlt hgb hsz hrr
    have hblk : blk < w.heap.size := (Array.getElem?_eq_some_iff.1 hgb).1
    have hcmp : CmpLays P g #[] encL k cf blk 0 d.toArray.size w := by
      intro m os dk hdk x y
      rw [Array.append_empty]
      exact hfn x y _
    have hcells : ∀ q, w.cell? ⟨blk, q, none⟩ = cur[q]? := fun q => by simp [World.cell?, hgb]
    have hH : HoldsK encL k w blk 0 d.toArray := by
      intro j hj
      rw [size_flatK] at hj
      refine ⟨?_, ?_⟩
      · rw [get_flatK encL k d.toArray j hj]
        have hkpos : 0 < k := by
          rcases Nat.eq_zero_or_pos k with h0 | h0
          · subst h0; simp at hj
          · exact h0
        have hi : j / k < d.length := by
          have : d.toArray.size = d.length := by simp
          rw [this] at hj
          exact Nat.div_lt_of_lt_mul (by rw [Nat.mul_comm]; exact hj)
        obtain ⟨y, p1, p2, p3⟩ := hrr.get (j / k) (enc d[j / k]) (by simp [hi])
        rw [hR] at p1
        subst p1
        have hlt : j % k < (encL d[j / k]).length := by rw [hk]; exact Nat.mod_lt _ hkpos
        obtain ⟨p4, _⟩ := p3 (j % k) ((encL d[j / k])[j % k]) (by simp [Value.cells, hlt])
        have p5 : w.cell? ⟨blk, 0 + (j / k) * k + j % k, none⟩ = some ((encL d[j / k])[j % k]) := p4.1
        have e : 0 + (j / k) * k + j % k = 0 + j := by
          have := Nat.div_add_mod j k
          rw [Nat.mul_comm] at this
          omega
        rw [e] at p5
        rw [p5]
        simp [hi, hlt]
      · simp [World.frozen?, hgb]
    have hmax : d.toArray.size < 4611686018427387904 := by
      simpa only [List.size_toArray] using hlt
    have hcon := AnyQ.slices_SortFunc_eq L k aE zE encL hk h1 cf hO g #[] blk 0 cap d.toArray w eg hcmp hH hblk hmax
    rw [List.size_toArray] at hcon
    refine hcon.mono ?_
    rintro en w' ⟨rfl, n, os, rfl⟩
    refine ⟨rfl, ?_⟩
    have hDs : (pdq (ltOf cf) d.toArray 0 d.length (Lib.bitLen d.length) true true).size = d.length := by
      have := (hperm d.toArray).1
      rwa [List.size_toArray] at this
    generalize pdq (ltOf cf) d.toArray 0 d.length (Lib.bitLen d.length) true true = D at hDs ⊢
    have hH' := holdsK_putRowK encL k (Go.Sort.ahead w n) blk 0 d.toArray D (holdsK_ahead encL k w n blk 0 d.toArray hH) (by simpa using hDs)
    refine ⟨putRowK encL k (Go.Sort.ahead w n) blk 0 D, putCells id 0 (flatK encL k D) cur, ⟨rfl, rfl, rfl, DLE.of_le (Nat.le_add_right _ _), ?_, fun b hb => ?_⟩, ?_, ?_, ?_, ?_, ?_⟩
    · show (Go.Sort.putRow id (Go.Sort.ahead w n) blk 0 _).heap.size = _
      rw [Go.Sort.size_putRow]; rfl
    · show ((Go.Sort.ahead w n).heap.modify blk _)[b]? = _
      rw [Array.getElem?_modify, if_neg (Ne.symm hb)]
      rfl
    · show ((Go.Sort.ahead w n).heap.modify blk _)[blk]? = _
      rw [Array.getElem?_modify, if_pos rfl]
      show (w.heap[blk]?).map _ = _
      rw [hgb]
      rfl
    · simp [putCells]
    · refine RR.of_get fun i r hi => ?_
      rw [List.getElem?_map] at hi
      cases hDi : D.toList[i]? with
      | none => rw [hDi] at hi; cases hi
      | some x =>
        rw [hDi] at hi
        cases hi
        have hil : i < D.size := by
          have := (List.getElem?_eq_some_iff.1 hDi).1
          simpa using this
        have hdi : i < d.length := by omega
        have hx : D[i]! = x := by
          have : D[i]? = some x := by simpa using hDi
          rw [getElem!_def, this]
        refine ⟨.agg (encL x).toArray, (hR _ x _).2 rfl, by simp [Value.cells, hk], fun j z hz => ?_⟩
        have hz' : (encL x)[j]? = some z := by simpa [Value.cells] using hz
        have hj : j < k := by
          have := (List.getElem?_eq_some_iff.1 hz').1
          rwa [hk] at this
        have hbound : i * k + j < D.size * k := by
          have := Nat.mul_le_mul_right k (show i + 1 ≤ D.size from hil)
          rw [Nat.add_mul, Nat.one_mul] at this
          omega
        obtain ⟨c1, _⟩ := hH' (i * k + j) (by rw [size_flatK]; exact hbound)
        rw [get_flatK encL k D _ hbound] at c1
        have e1 : (i * k + j) / k = i := by
          rw [Nat.mul_comm, Nat.mul_add_div (by omega), Nat.div_eq_of_lt hj]; omega
        have e2 : (i * k + j) % k = j := by
          rw [Nat.mul_comm, Nat.mul_add_mod, Nat.mod_eq_of_lt hj]
        rw [e1, e2, hx] at c1
        have hzz : (encL x)[j]! = z := by rw [getElem!_def, hz']
        rw [hzz] at c1
        refine ⟨⟨?_, ?_⟩, h1 x z (List.mem_of_getElem? hz')⟩
        · have : 0 + i * k + j = 0 + (i * k + j) := by omega
          rw [this]; exact c1
        · obtain ⟨y, p1, p2, p3⟩ := hrr.get i (enc d[i]) (by simp [hdi])
          have hlt' : j < y.cells.size := by rw [p2]; exact hj
          exact (p3 j y.cells[j] (Array.getElem?_eq_getElem hlt')).1.2
    · refine ⟨rfl, rfl, rfl, ?_, fun b hb => ?_⟩
      · show _ ≤ (grow _ _).heap.size
        rw [size_grow]; exact Nat.le_add_right _ _
      · exact heap_grow_old _ _ hb
    · exact DLE.of_eq rfl
  · intro d
    have := (hperm d.toArray).1
    simpa using this
end Go.X
namespace Go.Proofs.Ytjcbpfhlgebgdaa
open Go.X Go.Eng
open Go.Shelf Go.RowKit Go.Lib Go.Sort Go.Proofs
def encLC (x : Contact) : List Value := [.int .i64 x.From, .int .i64 x.To, .int .i64 x.Start, .int .i64 x.End, .int .i64 x.Rate, .int .i64 x.Delay]
instance : Inhabited Contact := ⟨⟨0, 0, 0, 0, 0, 0⟩⟩
theorem encLC_R (E : Env) (x : Contact) (v : Value) : R E (enc .Contact x) v ↔ v = .agg (encLC x).toArray := by
  show R E (enc_Contact x) v ↔ _
  unfold enc_Contact encLC
  simp only [R, RL]
  constructor
  · rintro ⟨xs, rfl, h⟩
    obtain ⟨a, l, rfl, rfl, b, l, rfl, rfl, c, l, rfl, rfl, d, l, rfl, rfl, e, l, rfl, rfl, f, l, rfl, rfl, rfl⟩ := h.1
    rfl
  · rintro rfl
    refine ⟨_, rfl, ⟨_, _, rfl, rfl, _, _, rfl, rfl, _, _, rfl, rfl, _, _, rfl, rfl, _, _, rfl, rfl, _, _, rfl, rfl, rfl⟩, ?_⟩
    intro z hz
    simp at hz
    rcases hz with rfl | rfl | rfl | rfl | rfl | rfl <;> rfl
noncomputable def plan_compare.srt (d : List Contact) : List Contact := (pdq (ltOf cmpC) d.toArray 0 d.length (Lib.bitLen d.length) true true).toList
noncomputable def plan_compare.sort : XSort Try.prog where
  f := 21
  g := some 22
  c := .Contact
  srt := plan_compare.srt
  sound := Sorts.of_walk Try.sortL 6 Try.isAgg35 Try.sizeOf35 (enc .Contact) encLC (fun _ => rfl) (fun x v hv => by simp [encLC] at hv; rcases hv with rfl | rfl | rfl | rfl | rfl | rfl <;> rfl) encLC_R cmpC swo 22 (enters_of Try.func22 (by kernel_rfl) rfl)
    (fun x y W => Go.Seq.compare_in x y W)
  go := by kernel_rfl
end Go.Proofs.Ytjcbpfhlgebgdaa
namespace Go.Proofs.Ytjcbpfhlgebgdaa
open Go.X Go.Eng
structure OKC (c : Contact) : Prop where
  f : 1 ≤ c.From ∧ c.From ≤ 16
  t : 1 ≤ c.To ∧ c.To ≤ 16
  ne : c.From ≠ c.To
  s : 0 ≤ c.Start ∧ c.Start < c.End ∧ c.End ≤ 1099511627776
  r : 1 ≤ c.Rate ∧ c.Rate ≤ 1048576
  d : 0 ≤ c.Delay ∧ c.Delay ≤ 1048576
def apartC (a b : Contact) : Prop := a.From = b.From → a.To = b.To → a.End ≤ b.Start ∨ b.End ≤ a.Start
structure Valid (l : List Contact) : Prop where
  ok : ∀ c ∈ l, OKC c
  asc : l.Pairwise (fun a b => cmpC a b < 0)
  ap : l.Pairwise apartC
theorem srt_spec (d : List Contact) : (plan_compare.srt d).Perm d ∧ (plan_compare.srt d).Pairwise (fun a b => ¬ cmpC b a < 0) := by
  have h := Go.Sort.pdq_sorts (Go.Proofs.ltOf cmpC) swo d.toArray 0 d.toArray.size (Lib.bitLen d.toArray.size) true true (Nat.zero_le _) (Nat.le_refl _) (Or.inl rfl)
  obtain ⟨⟨h1, _, h2⟩, h3⟩ := h
  rw [List.size_toArray] at h2 h3
  have h1 : (Go.Sort.pdq (Go.Proofs.ltOf cmpC) d.toArray 0 d.length (Lib.bitLen d.length) true true).size = d.length := by simpa using h1
  unfold plan_compare.srt
  generalize Go.Sort.pdq (Go.Proofs.ltOf cmpC) d.toArray 0 d.length (Lib.bitLen d.length) true true = D at h1 h2 h3 ⊢
  constructor
  · have e1 : D.extract 0 d.length = D := by rw [← h1]; exact Array.extract_size
    have e2 : d.toArray.extract 0 d.length = d.toArray := by
      have : d.length = d.toArray.size := by simp
      rw [this]; exact Array.extract_size
    rw [e1, e2] at h2
    simpa using h2
  · rw [List.pairwise_iff_getElem]
    intro i j hi hj hij
    have hj' : j < D.size := by simpa using hj
    have := h3 i j (Nat.zero_le _) hij (by omega)
    unfold Go.Proofs.ltOf at this
    rw [decide_eq_false_iff_not] at this
    have hi' : i < D.size := by omega
    rw [getElem!_pos D j hj', getElem!_pos D i hi'] at this
    simpa using this
theorem apartC_symm {a b : Contact} (h : apartC a b) : apartC b a := fun h1 h2 => (h h1.symm h2.symm).symm
theorem srt_valid {d : List Contact} (h1 : ∀ c ∈ d, OKC c) (h2 : d.Pairwise apartC) : Valid (plan_compare.srt d) := by
  obtain ⟨p1, p2⟩ := srt_spec d
  have hok : ∀ c ∈ plan_compare.srt d, OKC c := fun c hc => h1 c (p1.mem_iff.1 hc)
  have hap : (plan_compare.srt d).Pairwise apartC := (p1.pairwise_iff (R := apartC) (fun h => apartC_symm h)).2 h2
  refine ⟨hok, ?_, hap⟩
  rw [List.pairwise_iff_getElem] at *
  intro i j hi hj hij
  have q1 := p2 i j hi hj hij
  have q2 := hap i j hi hj hij
  have o1 := (hok _ (List.getElem_mem hi)).s
  have o2 := (hok _ (List.getElem_mem hj)).s
  generalize (plan_compare.srt d)[i] = a at *
  generalize (plan_compare.srt d)[j] = b at *
  rw [cmpC_lt] at *
  by_cases e : a.From = b.From ∧ a.To = b.To
  · have := q2 e.1 e.2
    omega
  · omega
theorem valid_perm {a b : List Contact} (ha : Valid a) (hb : Valid b) (hp : a.Perm b) : a = b :=
  hp.eq_of_pairwise (fun x y _ _ h1 h2 => by rw [cmpC_lt] at *; omega) ha.asc hb.asc
theorem apart_perm {a b : List Contact} (hp : a.Perm b) : a.Pairwise apartC ↔ b.Pairwise apartC := hp.pairwise_iff (R := apartC) (fun h => apartC_symm h)
end Go.Proofs.Ytjcbpfhlgebgdaa
