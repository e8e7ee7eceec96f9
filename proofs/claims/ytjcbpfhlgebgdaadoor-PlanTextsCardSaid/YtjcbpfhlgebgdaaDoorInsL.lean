import Derived.Test.YtjcbpfhlgebgdaaDoorE16
import Derived.Laws.CopyRow
import Derived.Lib.Overlaps
set_option linter.unusedSimpArgs false
set_option linter.unusedVariables false
namespace Go.Eng
open Go.RowKit Go.Builtin
theorem cell_of {w : World} {g : Nat} {cur : Array Value} {t : TypeId} {fz : Nat × Nat} (hg : w.heap[g]? = some (.cells cur t fz)) (o : Nat) : w.cell? ⟨g, o, none⟩ = cur[o]? := by
 simp [World.cell?, hg]
theorem run_copyN {P : Program} (w : World) (dT sT ty elem : TypeId) (g o dLen dCap : Nat) (a : Addr) (sLen sCap sz : Nat) (cur : Array Value) (t : TypeId) (cs : List Value)
  (hu : P.underlying dT = some (.slice elem)) (hs : sizeT P elem = some sz)
  (hg : w.heap[g]? = some (.cells cur t (0, 0))) (hn : cs.length = Nat.min sLen dLen * sz)
  (hsrc : ∀ j v, cs[j]? = some v → w.cell? (a.add j) = some v) (hfit : o + cs.length ≤ cur.size) (h1 : ∀ v ∈ cs, v.oneCell' = true) :
  (Builtin.copy_ #[dT, sT] ty #[.slice (some ⟨g, o, none⟩) dLen dCap, .slice (some a) sLen sCap]).run P w =
   .ok (goInt (Nat.min sLen dLen)) (w.setRow g (cur.toList.take o ++ cs ++ cur.toList.drop (o + cs.length)).toArray) := by
 have hl := run_loadCells_list (P := P) w a cs hsrc
 have hst := run_storeCells_at P g o t cs 0 cur w hg (by simpa using hfit) h1
 have hs' : (P.info? elem).map (·.size) = some sz := hs
 cases hq : P.info? elem with
 | none => simp [hq] at hs'
 | some i =>
  have hi : i.size = sz := by simpa [hq] using hs'
  simp [Builtin.copy_, run_underlying hu, Builtin.lenOf, Builtin.firstCells, sizeOf, typeInfo, hq, hi, ← hn, hl, hst]
theorem run_overlapsN {P : Program} (w : World) (tS tR e : TypeId) (ht : P.underlying tS = some (.slice e)) (size : Nat) (hz : sizeT P e = some size)
  (a b : Addr) (la ca lb cb : Nat) (hne : a.block ≠ b.block) (cura curb : Array Value) (ta tb : TypeId) (fa : Nat × Nat)
  (ha : w.heap[a.block]? = some (.cells cura ta fa)) (hna : cura.size ≠ 0) (hb : w.heap[b.block]? = some (.cells curb tb (0, 0))) :
  (Extern.SlicesOverlaps.overlaps #[tS, tS] #[tR] #[.slice (some a) la ca, .slice (some b) lb cb]).run P w = .ok (.bool false) w := by
 have hnb : (a.block != b.block) = true := by simpa using hne
 have hnb' : (a.block == b.block) = false := by simpa using hne
 have hsa : w.shape? a.block = some (ta, cura.size) := by simp [World.shape?, ha]
 have hsb : w.shape? b.block = some (tb, curb.size) := by simp [World.shape?, hb]
 have hfb : ∀ o : Nat, w.frozen? { block := b.block, off := o } = false := fun o => by simp [World.frozen?, hb]
 have hfb' : w.frozen? b = false := by simp [World.frozen?, hb]
 have hzz : (sizeOf e).run P w = .ok size w := run_sizeOf hz w
 change Sem.run P (α := Value) (do
  let some t := (#[tS, tS] : Array TypeId)[0]? | stuck "slices.overlaps: no parameter types"
  let .slice elem ← underlying t | stuck "slices.overlaps: slice type expected"
  let size ← sizeOf elem
  match (some a : Option Addr), (some b : Option Addr) with
  | some a, some b =>
   if la = 0 ∨ lb = 0 ∨ size = 0 then pure (Value.bool false)
   else if a.block != b.block && (← frozen a) && (← frozen b) then unsupported .addressObserved
   else do
    if a.block != b.block then do
     noView a; noView b
     if ← mayBeOne a b then return Value.bool ((← choose (.extern "sameAddr.stringBytes" 2)) == 1)
    pure (Value.bool (a.block == b.block && a.off < b.off + lb * size && b.off < a.off + la * size))
  | _, _ => pure (Value.bool false)) w = _
 by_cases h0 : la = 0 ∨ lb = 0 ∨ size = 0
 ·simp [run_underlying ht, hzz, h0]
 ·obtain ⟨k, hk⟩ : ∃ k, cura.size = k + 1 := ⟨cura.size - 1, by omega⟩
  rw [hk] at hsa
  cases hfa : w.frozen? a <;> cases hfe : w.frozen? { block := a.block, off := k + 1 } <;> simp [run_underlying ht, hzz, h0, hnb, hnb', frozen, noView, viewAt, mayBeOne, stringish, shape, Sem.run, hsa, hsb, hfa, hfe, hfb, hfb']
theorem dle_alloc (w : World) (o : Obj) : DLE w (w.drew.alloc o) := DLE.of_le (Nat.le_succ _)
theorem dle_drew (w : World) : DLE w w.drew := DLE.of_le (Nat.le_succ _)
theorem size_alloc' (w : World) (o : Obj) : w.heap.size ≤ (w.drew.alloc o).heap.size := ((Below.refl w.drew.heap.size w.drew).alloc (Nat.le_refl _) o).size
theorem size_setRow' (w : World) (g : Nat) (c : Array Value) : (w.setRow g c).heap.size = w.heap.size := by simp [World.setRow]
theorem flatC_split {k i : Nat} {ys : List Value} (h : ∀ y ∈ ys, y.cells.size = k) (hi : i ≤ ys.length) : flatC (ys.take i) = (flatC ys).take (i * k) ∧ flatC (ys.drop i) = (flatC ys).drop (i * k) := by
 have e : flatC ys = flatC (ys.take i) ++ flatC (ys.drop i) := by rw [← flatC_append, List.take_append_drop]
 have hl : (flatC (ys.take i)).length = i * k := by
  rw [flatC_length (k := k) (fun y hy => h y (List.mem_of_mem_take hy)), List.length_take, Nat.min_eq_left hi]
 rw [e]
 exact ⟨by rw [← hl, List.take_left], by rw [← hl, List.drop_left]⟩
theorem flatC_cur {w : World} {pr : Nat → Nat → Prop} {lam : Nat → Option Nat} {g k : Nat} {ys : List Value} {cur : Array Value} {t : TypeId} {fz : Nat × Nat} (hg : w.heap[g]? = some (.cells cur t fz)) (hys : ∀ y ∈ ys, y.cells.size = k)
  (h : ∀ (j : Nat) z, (flatC ys)[j]? = some z → Env.at ⟨w, pr, lam⟩ g (0 + j) z ∧ z.oneCell' = true) : flatC ys = cur.toList.take (ys.length * k) := by
 have hl := flatC_length hys
 have hget : ∀ (j : Nat) z, (flatC ys)[j]? = some z → cur.toList[j]? = some z := fun j z hz => by
  have h1 := (h j z hz).1.1
  rw [Nat.zero_add] at h1
  change w.cell? ⟨g, j, none⟩ = some z at h1
  rw [cell_of hg] at h1
  rw [Array.getElem?_toList]; exact h1
 have hle : (flatC ys).length ≤ cur.toList.length := by
  rcases Nat.lt_or_ge cur.toList.length (flatC ys).length with q | q
  ·have := hget cur.toList.length _ (List.getElem?_eq_getElem q)
   rw [List.getElem?_eq_none (Nat.le_refl _)] at this; cases this
  ·exact q
 refine List.ext_getElem? fun j => ?_
 rw [List.getElem?_take]
 by_cases hj : j < ys.length * k
 ·rw [if_pos hj]
  have hj' : j < (flatC ys).length := by omega
  rw [List.getElem?_eq_getElem hj', hget j _ (List.getElem?_eq_getElem hj')]
 ·rw [if_neg hj, List.getElem?_eq_none (by omega)]
theorem ins_fin {P : Program} {e : TypeId} {sz : Nat} (hsz : sizeT P e = some sz) {w w' : World} {pr : Nat → Nat → Prop} {lam : Nat → Option Nat} {hb : Option Nat} {rows : List V} {r : V} {ys yv : List Value} {i n : Nat} (hn : n = rows.length) (hi : i ≤ n)
  (hlt : ∀ b o, pr b o → b < w.heap.size) (hR : RL ⟨w, pr, lam⟩ rows ys) (hRv : RL ⟨w, pr, lam⟩ [r] yv) (hys : ∀ y ∈ ys, y.cells.size = sz) (hyv : ∀ y ∈ yv, y.cells.size = sz) (hfr : V.flatL rows = true) (hfv : r.flat = true) {g' cap' : Nat} {cur' : Array Value}
  (hg' : hb = some g' ∨ w.heap.size ≤ g') (h' : w'.heap[g']? = some (.cells cur' e (0, 0))) (hcs : cur'.size = cap' * sz) (hle : n + 1 ≤ cap') (hm : cap' ≤ maxLen)
  (hcells : cur'.toList.take ((n + 1) * sz) = flatC (ys.take i ++ yv ++ ys.drop i)) (hone : ∀ z ∈ flatC (ys.take i ++ yv ++ ys.drop i), z.oneCell' = true)
  (hos : w'.os = w.os) (htape : w'.tape = w.tape) (hout : w'.output = w.output) (hd : DLE w w') (hsize : w.heap.size ≤ w'.heap.size) (hblock : ∀ k, k < w.heap.size → hb ≠ some k → w'.heap[k]? = w.heap[k]?) :
  ∃ v pr', Ending.returned (.slice (some ⟨g', 0, none⟩) (n + 1) cap') = .returned v ∧ R ⟨w', pr', lam⟩ (.list (rows.take i ++ [r] ++ rows.drop i)) v ∧ InRel w' pr' lam [] ∧ LeftM w pr lam hb w' pr' ∧
   Own P (fun g => w.heap.size ≤ g ∨ hb = some g) ⟨w', pr', lam⟩ 0 e v := by
 subst hn
 have hlen' : (rows.take i ++ [r] ++ rows.drop i).length = rows.length + 1 := by simp; omega
 refine ⟨_, fun b o => (pr b o ∧ hb ≠ some b) ∨ (b = g' ∧ o < (rows.length + 1) * sz), rfl, ?_, fun i B h => by simp at h, ⟨hos, htape, hout, hd, hsize, fun k hk _ hh => hblock k hk hh, fun b o h hh => .inl ⟨h, hh⟩, fun b o h => ?_⟩, fun g hg => ?_⟩
 ·simp only [R]
  refine ⟨some ⟨g', 0, none⟩, cap', by rw [hlen'], by rw [hlen']; exact hle, hm, .inr ⟨g', 0, sz, rfl, RR.of_vals (ys := ys.take i ++ yv ++ ys.drop i) ?_ (fun y hy => ?_) fun j z hz => ?_⟩⟩
  ·have h1 := RL.flat (w' := w') (pr' := fun b o => (pr b o ∧ hb ≠ some b) ∨ (b = g' ∧ o < (rows.length + 1) * sz)) rows ys hfr hR
   have h2 := RL.flat (w' := w') (pr' := fun b o => (pr b o ∧ hb ≠ some b) ∨ (b = g' ∧ o < (rows.length + 1) * sz)) [r] yv (by simp [V.flatL, hfv]) hRv
   exact ((h1.take i).append h2).append (h1.drop i)
  ·simp only [List.mem_append] at hy
   rcases hy with (hy | hy) | hy
   ·exact hys y (List.mem_of_mem_take hy)
   ·exact hyv y hy
   ·exact hys y (List.mem_of_mem_drop hy)
  ·have hz' := hz
   rw [← hcells, List.getElem?_take] at hz'
   split at hz'
   ·rename_i hj
    refine ⟨⟨?_, .inr ⟨rfl, by omega⟩⟩, hone z (List.mem_of_getElem? hz)⟩
    change w'.cell? ⟨g', 0 + j, none⟩ = some z
    rw [cell_of h', Nat.zero_add, ← Array.getElem?_toList]
    exact hz'
   ·cases hz'
 ·rcases h with ⟨h1, h2⟩ | ⟨rfl, _⟩
  ·exact .inl ⟨h1, h2⟩
  ·rcases hg' with q | q
   ·exact .inr (.inr q)
   ·exact .inr (.inl ⟨q, (Array.getElem?_eq_some_iff.1 h').1⟩)
 ·have hgg : g = g' := by
   simp only [gblock] at hg
   rw [if_pos (.inl ⟨trivial, by omega⟩)] at hg
   cases hg; rfl
  subst hgg
  refine ⟨hg'.symm, _, _, cur', sz, rfl, h', hsz, hcs, fun o ho hp => ?_⟩
  rcases hp with ⟨h1, h2⟩ | ⟨_, h2⟩
  ·rcases hg' with q | q
   ·exact h2 q
   ·have := hlt _ _ h1; omega
  ·omega
end Go.Eng
