/- The whole run of ScriptKnown, out of its pieces, in a world in which the listed variables lie as the program's text lays them. -/
import Derived.Test.YtclelomalmmpbaaGreatDoorSk0
import Derived.Test.YtclelomalmmpbaaGreatDoorSk1
import Derived.Test.YtclelomalmmpbaaGreatDoorSk2
import Derived.Test.YtclelomalmmpbaaGreatDoorSk3
import Derived.Test.YtclelomalmmpbaaGreatDoorSk4
import Derived.Test.YtclelomalmmpbaaGreatDoorSk5
import Derived.Test.YtclelomalmmpbaaGreatDoorSk6
import Derived.Test.YtclelomalmmpbaaGreatDoorSk7
import Derived.Test.YtclelomalmmpbaaGreatDoorSk8
import Derived.Test.YtclelomalmmpbaaGreatDoorSk9
import Derived.Test.YtclelomalmmpbaaGreatDoorSk10
import Derived.Test.YtclelomalmmpbaaGreatDoorSk11
import Derived.Test.YtclelomalmmpbaaGreatDoorSk12
import Derived.Test.YtclelomalmmpbaaGreatDoorSk13
import Derived.Test.YtclelomalmmpbaaGreatDoorSk14
import Derived.Test.YtclelomalmmpbaaGreatDoorSk15
import Derived.Test.YtclelomalmmpbaaGreatDoorSk16
import Derived.Test.YtclelomalmmpbaaGreatDoorSk17
import Derived.Test.YtclelomalmmpbaaGreatDoorSk18
import Derived.Test.YtclelomalmmpbaaGreatDoorSk19
import Derived.Test.YtclelomalmmpbaaGreatDoorSk20
import Derived.Test.YtclelomalmmpbaaGreatDoorSk21
import Derived.Test.YtclelomalmmpbaaGreatDoorSk22
import Derived.Test.YtclelomalmmpbaaGreatDoorSk23
import Derived.Test.YtclelomalmmpbaaGreatDoorSk24
import Derived.Test.YtclelomalmmpbaaGreatDoorSk25
import Derived.Test.YtclelomalmmpbaaGreatDoorSk26
import Derived.Test.YtclelomalmmpbaaGreatDoorSk27
import Derived.Test.YtclelomalmmpbaaGreatDoorSk28
import Derived.Test.YtclelomalmmpbaaGreatDoorSk29
import Derived.Test.YtclelomalmmpbaaGreatDoorSk30
import Derived.Test.YtclelomalmmpbaaGreatDoorAS
import Derived.Test.YtclelomalmmpbaaGreatDoorR31
import Derived.OpenShut
import Derived.LaidMore
import Derived.LaidSub
import Derived.Stop.Joined
import Derived.ChangeSlices
namespace Go.Run
open Go.RowKit
set_option linter.unusedVariables false
/-- A call without arguments whose run leads to a good end; a listed table. -/
theorem callsC_of_leadsT {P : Program} {F : T Func} {w0 : World} {G bm : Nat} {f0 : FuncId} {C : World → Prop} (hF : FunOK P F) {fn : Func} {m : T AObj} (hg : GlobT G bm w0 m) (hsz : G ≤ w0.heap.size + 1) (hbm : bm < w0.heap.size) (hf : F.get f0 = some fn) (hsm : small fn.ntmps = true) {r : Value} (hr : flat r = true) (hc : C w0)
    (h : LeadsC C P G (fun v _ => veq v r) (start fn f0 G [] m)) : Calls P f0 #[] w0 fun e w' => e = .returned r ∧ Kept w0 w' := by
  intro cs
  have hH := start_relT hg hsz hbm
  obtain ⟨h1, h2, h3⟩ := hF f0 fn hf
  cases hb : fn.body with
  | none => rw [hb] at h2; cases h2
  | some body =>
    have hLR : LR (tabL G bm) [] [] := LR.refl_flat fun c hc => by cases hc
    have htop := enter_rel (G := G) (H := ⟨G, m⟩) hF hf hb hLR (Nat.zero_le _) hsm
    have hsim : Sim P w0 G cs f0 (start fn f0 G [] m) (lone (Frame.enter P f0 #[] .normal) ([] ++ cs) w0) := by
      refine ⟨_, _, [], w0, rfl, hH, ?_, .nil, Nat.le_refl _, Nat.le_refl _, rfl⟩
      simpa [start, hb] using htop
    obtain ⟨L, v, H', x, fr, w', q0, q1, q2, q3, q4, q5⟩ := h _ _ _ _ hc hsim
    have hv := veq_eq q0
    subst hv
    have hx := q5.eq_flat hr
    subst hx
    exact ⟨.returned x, w', fr, ⟨rfl, q4.keep⟩, q1, q2, q3⟩
end Go.Run
namespace Go.Proofs.YtclelomalmmpbaaGreatDoor
open Go Go.Run Go.RowKit
set_option linter.unusedVariables false
theorem Tryz.mixedK : Tryz.prog.follows .mixedOrders = true := by kernel_rfl
/-- The variable errors.errorType holds the handle of the type error. -/
def CW (w : World) : Prop := w.cell? ⟨2, 0, none⟩ = some (.iface 220 (.agg #[.pointer (some ⟨9, 82, none⟩)]))
theorem asK : AsK CW Tryz.prog 44 86 88 where
  kept := fun w0 w h hk => by
    unfold CW at h ⊢
    have hlt : 2 < w0.heap.size := by
      rcases Nat.lt_or_ge 2 w0.heap.size with q | q
      · exact q
      · simp [World.cell?, Array.getElem?_eq_none q] at h
    have := hk.block 2 hlt
    simp only [World.cell?] at h ⊢
    rw [this]; exact h
  hit := fun n t old w hC ht hf => (as_hit n t old w hC ht hf).mono fun e w' ⟨he, hw⟩ => ⟨he, _, (((More.refl w).alloc _).alloc _ |>.alloc _).alloc _, hw⟩
  store := fun t x old w hx ht hf => Tryz.sv86 t x old w hx ht hf
theorem Sk_leadsa (ty0 ty1 ty2 : TypeId) (n1 n2 k : Nat) : LeadsC CW Tryz.prog 5 (fun v _ => veq v (.bool true)) (Sk_c0 ty0 ty1 ty2 (Sk_om true n1 n2 k)) :=
  leadsC_cut Tryz.runF_ok Tryz.mixedK (Sk_run0a ty0 ty1 ty2 n1 n2 k) (leadsC_cut Tryz.runF_ok Tryz.mixedK (Sk_run1a ty0 ty1 ty2 n1 n2 k) (leadsC_cut Tryz.runF_ok Tryz.mixedK (Sk_run2a ty0 ty1 ty2 n1 n2 k) (leadsC_cut Tryz.runF_ok Tryz.mixedK (Sk_run3a ty0 ty1 ty2 n1 n2 k) (leadsC_cut Tryz.runF_ok Tryz.mixedK (Sk_run4a ty0 ty1 ty2 n1 n2 k) (leadsC_cut Tryz.runF_ok Tryz.mixedK (Sk_run5a ty0 ty1 ty2 n1 n2 k) (leadsC_cut Tryz.runF_ok Tryz.mixedK (Sk_run6a ty0 ty1 ty2 n1 n2 k) (leadsC_cut Tryz.runF_ok Tryz.mixedK (Sk_run7a ty0 ty1 ty2 n1 n2 k) (leadsC_cut Tryz.runF_ok Tryz.mixedK (Sk_run8a ty0 ty1 ty2 n1 n2 k) (leadsC_cut Tryz.runF_ok Tryz.mixedK (Sk_run9a ty0 ty1 ty2 n1 n2 k) (leadsC_cut Tryz.runF_ok Tryz.mixedK (Sk_run10a ty0 ty1 ty2 n1 n2 k) (leadsC_cut Tryz.runF_ok Tryz.mixedK (Sk_run11a ty0 ty1 ty2 n1 n2 k) (leadsC_cut Tryz.runF_ok Tryz.mixedK (Sk_run12a ty0 ty1 ty2 n1 n2 k) (leadsC_cut Tryz.runF_ok Tryz.mixedK (Sk_run13a ty0 ty1 ty2 n1 n2 k) (leadsC_cut Tryz.runF_ok Tryz.mixedK (Sk_run14a ty0 ty1 ty2 n1 n2 k) (leadsC_cut Tryz.runF_ok Tryz.mixedK (Sk_run15a ty0 ty1 ty2 n1 n2 k) (leadsC_cut Tryz.runF_ok Tryz.mixedK (Sk_run16a ty0 ty1 ty2 n1 n2 k) (leadsC_cut Tryz.runF_ok Tryz.mixedK (Sk_run17a ty0 ty1 ty2 n1 n2 k) (Sk_run18a asK ty0 ty1 ty2 n1 n2 k (leadsC_cut Tryz.runF_ok Tryz.mixedK (Sk_run19a ty0 ty1 ty2 n1 n2 k) (leadsC_cut Tryz.runF_ok Tryz.mixedK (Sk_run20a ty0 ty1 ty2 n1 n2 k) (leadsC_cut Tryz.runF_ok Tryz.mixedK (Sk_run21a ty0 ty1 ty2 n1 n2 k) (leadsC_cut Tryz.runF_ok Tryz.mixedK (Sk_run22a ty0 ty1 ty2 n1 n2 k) (Sk_run23a asK ty0 ty1 ty2 n1 n2 k (leadsC_cut Tryz.runF_ok Tryz.mixedK (Sk_run24a ty0 ty1 ty2 n1 n2 k) (leadsC_cut Tryz.runF_ok Tryz.mixedK (Sk_run25a ty0 ty1 ty2 n1 n2 k) (leadsC_cut Tryz.runF_ok Tryz.mixedK (Sk_run26a ty0 ty1 ty2 n1 n2 k) (leadsC_cut Tryz.runF_ok Tryz.mixedK (Sk_run27a ty0 ty1 ty2 n1 n2 k) (leadsC_cut Tryz.runF_ok Tryz.mixedK (Sk_run28a ty0 ty1 ty2 n1 n2 k) (leadsC_cut Tryz.runF_ok Tryz.mixedK (Sk_run29a ty0 ty1 ty2 n1 n2 k) (leadsC_run Tryz.runF_ok Tryz.mixedK (Sk_run30a ty0 ty1 ty2 n1 n2 k)))))))))))))))))))))))))))))))
theorem Sk_leadsb (ty0 ty1 ty2 : TypeId) (n1 n2 k : Nat) : LeadsC CW Tryz.prog 5 (fun v _ => veq v (.bool true)) (Sk_c0 ty0 ty1 ty2 (Sk_om false n1 n2 k)) :=
  leadsC_cut Tryz.runF_ok Tryz.mixedK (Sk_run0b ty0 ty1 ty2 n1 n2 k) (leadsC_cut Tryz.runF_ok Tryz.mixedK (Sk_run1b ty0 ty1 ty2 n1 n2 k) (leadsC_cut Tryz.runF_ok Tryz.mixedK (Sk_run2b ty0 ty1 ty2 n1 n2 k) (leadsC_cut Tryz.runF_ok Tryz.mixedK (Sk_run3b ty0 ty1 ty2 n1 n2 k) (leadsC_cut Tryz.runF_ok Tryz.mixedK (Sk_run4b ty0 ty1 ty2 n1 n2 k) (leadsC_cut Tryz.runF_ok Tryz.mixedK (Sk_run5b ty0 ty1 ty2 n1 n2 k) (leadsC_cut Tryz.runF_ok Tryz.mixedK (Sk_run6b ty0 ty1 ty2 n1 n2 k) (leadsC_cut Tryz.runF_ok Tryz.mixedK (Sk_run7b ty0 ty1 ty2 n1 n2 k) (leadsC_cut Tryz.runF_ok Tryz.mixedK (Sk_run8b ty0 ty1 ty2 n1 n2 k) (leadsC_cut Tryz.runF_ok Tryz.mixedK (Sk_run9b ty0 ty1 ty2 n1 n2 k) (leadsC_cut Tryz.runF_ok Tryz.mixedK (Sk_run10b ty0 ty1 ty2 n1 n2 k) (leadsC_cut Tryz.runF_ok Tryz.mixedK (Sk_run11b ty0 ty1 ty2 n1 n2 k) (leadsC_cut Tryz.runF_ok Tryz.mixedK (Sk_run12b ty0 ty1 ty2 n1 n2 k) (leadsC_cut Tryz.runF_ok Tryz.mixedK (Sk_run13b ty0 ty1 ty2 n1 n2 k) (leadsC_cut Tryz.runF_ok Tryz.mixedK (Sk_run14b ty0 ty1 ty2 n1 n2 k) (leadsC_cut Tryz.runF_ok Tryz.mixedK (Sk_run15b ty0 ty1 ty2 n1 n2 k) (leadsC_cut Tryz.runF_ok Tryz.mixedK (Sk_run16b ty0 ty1 ty2 n1 n2 k) (leadsC_cut Tryz.runF_ok Tryz.mixedK (Sk_run17b ty0 ty1 ty2 n1 n2 k) (Sk_run18b asK ty0 ty1 ty2 n1 n2 k (leadsC_cut Tryz.runF_ok Tryz.mixedK (Sk_run19b ty0 ty1 ty2 n1 n2 k) (leadsC_cut Tryz.runF_ok Tryz.mixedK (Sk_run20b ty0 ty1 ty2 n1 n2 k) (leadsC_cut Tryz.runF_ok Tryz.mixedK (Sk_run21b ty0 ty1 ty2 n1 n2 k) (leadsC_cut Tryz.runF_ok Tryz.mixedK (Sk_run22b ty0 ty1 ty2 n1 n2 k) (Sk_run23b asK ty0 ty1 ty2 n1 n2 k (leadsC_cut Tryz.runF_ok Tryz.mixedK (Sk_run24b ty0 ty1 ty2 n1 n2 k) (leadsC_cut Tryz.runF_ok Tryz.mixedK (Sk_run25b ty0 ty1 ty2 n1 n2 k) (leadsC_cut Tryz.runF_ok Tryz.mixedK (Sk_run26b ty0 ty1 ty2 n1 n2 k) (leadsC_cut Tryz.runF_ok Tryz.mixedK (Sk_run27b ty0 ty1 ty2 n1 n2 k) (leadsC_cut Tryz.runF_ok Tryz.mixedK (Sk_run28b ty0 ty1 ty2 n1 n2 k) (leadsC_cut Tryz.runF_ok Tryz.mixedK (Sk_run29b ty0 ty1 ty2 n1 n2 k) (leadsC_run Tryz.runF_ok Tryz.mixedK (Sk_run30b ty0 ty1 ty2 n1 n2 k)))))))))))))))))))))))))))))))
theorem Tryz.et : Tryz.prog.globalNamed "errors.errorType" = some 2 := by kernel_rfl
theorem Tryz.rt : (Tryz.prog.cutTypes.find? (·.1 == "internal/reflectlite.rtype")).map (·.2) = some 220 := by kernel_rfl
theorem Tryz.oneRow : ((List.range Tryz.prog.types.size).filter fun t => Tryz.prog.rowNamed t [101, 114, 114, 111, 114]) = [82] := by kernel_rfl
theorem handle_of_laid {W : World} (h : laidMetH Tryz.prog Rows.scriptKnownRow.laid W) : CW W := by
  have h' := (laidMetH_iff.1 h).2
  obtain ⟨name, u, ty, e1, e2, e3, e4, e5⟩ := h' ("errors.errorType", Rows.laid_errors_errorType) (List.mem_filter.2 ⟨List.mem_of_getElem? (i := 4) rfl, by kernel_rfl⟩)
  have en : name = [101, 114, 114, 111, 114] := (Option.some.inj e1).symm
  subst en
  obtain rfl := Option.some.inj (Tryz.rt.symm.trans e2)
  have hm : ty ∈ (List.range Tryz.prog.types.size).filter fun t => Tryz.prog.rowNamed t [101, 114, 114, 111, 114] := List.mem_filter.2 ⟨List.mem_range.2 e3, e4⟩
  rw [Tryz.oneRow] at hm
  obtain rfl := List.mem_singleton.1 hm
  have hh : typeHandle Tryz.prog 82 = .pointer (some ⟨9, 82, none⟩) := by kernel_rfl
  rw [hh] at e5
  unfold CW
  simpa using World.var?_cell Tryz.et e5 0
def TEl (o : Bool) (n1 n2 : Nat) : List MapEntry := cond o [⟨.string ⟨([99, 111, 110, 116, 97, 99, 116].map UInt8.ofNat).toArray⟩, .func (.func 231) #[] #[], n1⟩, ⟨.string ⟨([110, 111, 100, 101].map UInt8.ofNat).toArray⟩, .func (.func 230) #[] #[], n2⟩] [⟨.string ⟨([110, 111, 100, 101].map UInt8.ofNat).toArray⟩, .func (.func 230) #[] #[], n2⟩, ⟨.string ⟨([99, 111, 110, 116, 97, 99, 116].map UInt8.ofNat).toArray⟩, .func (.func 231) #[] #[], n1⟩]
set_option maxRecDepth 100000 in
/-- The call: it returns true, and every block that was there is as it was. -/
theorem law (W : World) (hL : laidMetH Tryz.prog Rows.scriptKnownRow.laid W) : Calls Tryz.prog 5 #[] W fun e w' => e = .returned (.bool true) ∧ Go.Run.Kept W w' := by
  have hC := handle_of_laid hL
  have hF := laidMetH.funcs hL (n := "packhorse/script.readers") (d := (.map [(.string [99, 111, 110, 116, 97, 99, 116], .iface "func" (.lit (.string [40, 42, 112, 97, 99, 107, 104, 111, 114, 115, 101, 47, 115, 99, 114, 105, 112, 116, 46, 114, 101, 97, 100, 101, 114, 41, 46, 99, 111, 110, 116, 97, 99, 116]))), (.string [110, 111, 100, 101], .iface "func" (.lit (.string [40, 42, 112, 97, 99, 107, 104, 111, 114, 115, 101, 47, 115, 99, 114, 105, 112, 116, 46, 114, 101, 97, 100, 101, 114, 41, 46, 99, 111, 110, 102, 105, 103])))])) (List.mem_of_getElem? (i := 6) rfl)
  obtain ⟨bm, hc, es, k, hm, o, n1, n2, he⟩ := Go.Run.table_at (g := 1) (t := 156) (k := 9) (e := 155) (ps := #[149, 157]) (rs := #[]) (va := false) (k1 := [99, 111, 110, 116, 97, 99, 116]) (k2 := [110, 111, 100, 101]) (b1 := 40) (r1 := [42, 112, 97, 99, 107, 104, 111, 114, 115, 101, 47, 115, 99, 114, 105, 112, 116, 46, 114, 101, 97, 100, 101, 114, 41, 46, 99, 111, 110, 116, 97, 99, 116]) (b2 := 40) (r2 := [42, 112, 97, 99, 107, 104, 111, 114, 115, 101, 47, 115, 99, 114, 105, 112, 116, 46, 114, 101, 97, 100, 101, 114, 41, 46, 99, 111, 110, 102, 105, 103]) (f1 := 231) (f2 := 230) hF
    (by kernel_rfl) (by kernel_rfl) (by kernel_rfl) (by kernel_rfl) (by kernel_rfl) rfl (by kernel_rfl) (by kernel_rfl)
  replace he : es.toList = TEl o n1 n2 := he.trans (by cases o <;> rfl)
  replace hL := (laidMetH_iff.1 hL).1
  obtain ⟨ty0, h0⟩ := Go.Run.laid_cells (n := "packhorse/script.uses") (d := Rows.laid_packhorse_script_uses) (g := 0) (t := 123) (vs := Sk_v0) hL (List.mem_filter.2 ⟨List.mem_of_getElem? (i := 5) rfl, by kernel_rfl⟩) (by kernel_rfl) (by kernel_rfl) (by kernel_rfl) (by kernel_rfl) (by unfold Sk_v0; decide +kernel)
  have z0 := (Array.getElem?_eq_some_iff.1 h0).1
  obtain ⟨ty1, h1⟩ := Go.Run.laid_cells (n := "internal/strconv.uint64pow10") (d := Rows.laid_internal_strconv_uint64pow10) (g := 3) (t := 263) (vs := Sk_v1) hL (List.mem_filter.2 ⟨List.mem_of_getElem? (i := 2) rfl, by kernel_rfl⟩) (by kernel_rfl) (by kernel_rfl) (by kernel_rfl) (by kernel_rfl) (by unfold Sk_v1; decide +kernel)
  have z1 := (Array.getElem?_eq_some_iff.1 h1).1
  have e0 : bm ≠ 0 := by rintro rfl; rw [h0] at hm; cases hm
  have e1 : bm ≠ 3 := by rintro rfl; rw [h1] at hm; cases hm
  obtain ⟨ty2, fr, ht⟩ := hc
  have et : bm ≠ 1 := by rintro rfl; rw [ht] at hm; cases hm
  have zt := (Array.getElem?_eq_some_iff.1 ht).1
  have zb := (Array.getElem?_eq_some_iff.1 hm).1
  have hgo : ∀ m : T AObj, GlobT 5 bm W m → LeadsC CW Tryz.prog 5 (fun v _ => veq v (.bool true)) (Go.Run.start Tryz.f5 5 5 [] m) → Calls Tryz.prog 5 #[] W fun e w' => e = .returned (.bool true) ∧ Go.Run.Kept W w' := fun m hm hl =>
    callsC_of_leadsT (F := Tryz.runF) (fn := Tryz.f5) Tryz.runF_ok hm (by omega) zb (by kernel_rfl) (by kernel_rfl) (by kernel_rfl) hC hl
  have hfl : ∀ x ∈ TEl o n1 n2, flat x.key = true ∧ flat x.val = true := fun x hx => by
    unfold TEl at hx
    cases o <;> simp only [cond_true, cond_false, List.mem_cons, List.not_mem_nil, or_false] at hx <;> rcases hx with rfl | rfl <;> exact ⟨by kernel_rfl, by kernel_rfl⟩
  have hmap := tabMap_rel (L := tabL 5 bm) hm he hfl
  cases o with
  | true => exact hgo _ (globT_map (globT_set (globT_set (globT_set (globT_nil) (by omega) (Ne.symm e0) (laidObj_rel h0 (by kernel_rfl) (by kernel_rfl))) (by omega) (Ne.symm e1) (laidObj_rel h1 (by kernel_rfl) (by kernel_rfl))) (by omega) (Ne.symm et) (tabCell_rel ht)) hmap) (Sk_leadsa ty0 ty1 ty2 n1 n2 k)
  | false => exact hgo _ (globT_map (globT_set (globT_set (globT_set (globT_nil) (by omega) (Ne.symm e0) (laidObj_rel h0 (by kernel_rfl) (by kernel_rfl))) (by omega) (Ne.symm e1) (laidObj_rel h1 (by kernel_rfl) (by kernel_rfl))) (by omega) (Ne.symm et) (tabCell_rel ht)) hmap) (Sk_leadsb ty0 ty1 ty2 n2 n1 k)
end Go.Proofs.YtclelomalmmpbaaGreatDoor
