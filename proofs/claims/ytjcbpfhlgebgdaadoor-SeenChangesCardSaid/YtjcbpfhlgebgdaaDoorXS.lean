import Derived.Test.YtjcbpfhlgebgdaaDoorX9
import Derived.Test.YtjcbpfhlgebgdaaDoorR28
set_option linter.unusedSimpArgs false
set_option linter.unusedVariables false
namespace Go.Eng
open Go.RowKit
def vInt : V → Option Value
 | .int k n => some (.int k n)
 | .bool b => some (.bool b)
 | _ => none
def vInts : List V → Option (List Value)
 | [] => some []
 | v :: r => match vInt v, vInts r with
  | some a, some b => some (a :: b)
  | _, _ => none
def vRows : List V → Option (List Value)
 | [] => some []
 | .agg cs :: r => (match vInts cs, vRows r with
  | some a, some b => some (a ++ b)
  | _, _ => none)
 | _ => none
theorem vInt_spec {E : Env} {v : V} {x y : Value} (h : vInt v = some x) (r : R E v y) : y = x := by
 cases v <;> simp only [vInt, Option.some.injEq, reduceCtorEq] at h
 ·subst h; simpa [R] using r
 ·subst h; simpa [R] using r
theorem vInts_spec {E : Env} : ∀ {cs : List V} {xs ys : List Value}, vInts cs = some xs → RL E cs ys → ys = xs
 | [], xs, ys, h, r => by
  simp only [vInts, Option.some.injEq] at h
  subst h
  simpa [RL] using r
 | c :: cs, xs, ys, h, r => by
  simp only [vInts] at h
  split at h
  ·rename_i a b h1 h2
   cases h
   simp only [RL] at r
   obtain ⟨y, ys', rfl, r1, r2⟩ := r
   rw [vInt_spec h1 r1, vInts_spec h2 r2]
  ·cases h
theorem vRows_spec {E : Env} : ∀ {rows : List V} {vs ys : List Value}, vRows rows = some vs → RL E rows ys → flatC ys = vs
 | [], vs, ys, h, r => by
  simp only [vRows, Option.some.injEq] at h
  subst h
  have : ys = [] := by simpa [RL] using r
  subst this; rfl
 | v :: rows, vs, ys, h, r => by
  simp only [RL] at r
  obtain ⟨y, ys', rfl, r1, r2⟩ := r
  cases v <;> simp only [vRows, reduceCtorEq] at h
  rename_i cs
  split at h
  ·rename_i a b h1 h2
   cases h
   simp only [R] at r1
   obtain ⟨xs, rfl, q1, _⟩ := r1
   rw [vInts_spec h1 q1] at *
   have := vRows_spec h2 r2
   simp only [flatC, List.flatMap_cons] at this ⊢
   rw [this]
   simp [Value.cells]
  ·cases h
theorem slice_arg {w : World} {pr : Nat → Nat → Prop} {lam : Nat → Option Nat} {b o : Nat} {vs : List Value} (hne : 0 < vs.length) (h : ∀ (j : Nat) z, vs[j]? = some z → Env.at ⟨w, pr, lam⟩ b (o + j) z) :
  ∃ cur ty fr, w.heap[b]? = some (.cells cur ty fr) ∧ (∀ i v, vs[i]? = some v → cur[o + i]? = some v) ∧ o + vs.length ≤ cur.size := by
 have h0 := (h 0 _ (List.getElem?_eq_getElem hne)).1
 change w.cell? ⟨b, o + 0, none⟩ = some _ at h0
 unfold World.cell? at h0
 dsimp only at h0
 split at h0
 ·rename_i cur ty fr hq
  have key : ∀ i v, vs[i]? = some v → cur[o + i]? = some v := fun i v hv => by
   have h1 := (h i v hv).1
   change w.cell? ⟨b, o + i, none⟩ = some v at h1
   unfold World.cell? at h1
   dsimp only at h1
   rw [hq] at h1
   simpa using h1
  refine ⟨cur, ty, fr, hq, key, ?_⟩
  have hl := key (vs.length - 1) _ (List.getElem?_eq_getElem (by omega))
  have := (Array.getElem?_eq_some_iff.1 hl).1
  omega
 ·cases h0
theorem fn_slice {P : Program} {F : Go.Run.T Func} {f : FuncId} {fn : Func} (hF : Go.Run.FunOK P F) (hf : F.get f = some fn) (hlen : Nat.ble 1 fn.ntmps = true) (hsm : Go.Run.small fn.ntmps = true) {r : Value} (hr : Go.Run.flat r = true) {rows : List V} {vs : List Value}
  (hne : 0 < vs.length) (hv : vRows rows = some vs) (hs : Go.Run.small vs.length = true) (hfl : vs.all (fun v => Go.Run.flat v && v.oneCell') = true)
  (h : ∀ ty N cap, Go.Run.Leads P 1 (fun v _ => Go.Run.veq v r) (Go.Run.startS fn f vs rows.length ty N cap)) {res : V} (hres : ∀ E, R E res r) (hD : ∀ w w' : World, DLE w w') : Go.Eng.Fn P f [.list rows] [] res [] := by
 intro w pr lam cargs hl hargs _ _ _
 simp only [RL] at hargs
 obtain ⟨x0, ys0, hc, hR0, rfl⟩ := hargs
 have hca : cargs = #[x0] := by rw [← Array.toList_inj]; simpa using hc
 subst hca
 simp only [R] at hR0
 obtain ⟨base, c, rfl, hle, hm, hrow⟩ := hR0
 rcases hrow with ⟨hq, hc0⟩ | ⟨b, o, k, rfl, hb⟩
 ·exfalso
  have hr0 : rows = [] := List.eq_nil_of_length_eq_zero (by omega)
  subst hr0
  simp only [vRows, Option.some.injEq] at hv
  subst hv
  simp at hne
 obtain ⟨ys, y1, y2, y3⟩ := hb.vals
 rw [vRows_spec hv y1] at y3
 obtain ⟨cur, ty, fr, q1, q2, q3⟩ := slice_arg (w := w) (pr := pr) (lam := lam) hne fun j z hz => (y3 j z hz).1
 refine (Go.Run.calls_of_leadsS hF hf hlen hsm hr hs hfl h q1 q2 q3).mono fun e w' ⟨he, hk⟩ => ?_
 exact ⟨r, pr, he, hres _, fun i B h => by simp at h, ⟨hk.os, hk.tape, hk.output, hD _ _, hk.size, fun k hk' _ => hk.block k hk', fun _ _ h => h, fun _ _ h => .inl h⟩⟩
end Go.Eng
