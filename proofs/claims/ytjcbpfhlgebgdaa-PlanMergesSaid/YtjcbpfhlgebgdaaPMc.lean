import Derived.Test.YtjcbpfhlgebgdaaPD
import Derived.Maps.RangeWalk
import Derived.Maps.OwnOps
import Derived.Maps.AppendAt
import Derived.WalkKit
set_option linter.unusedSimpArgs false
set_option linter.unusedVariables false
namespace Go.Proofs.Ytjcbpfhlgebgdaa
open Go.X Go.Eng
def sameC (a b : Contact) : Prop := a.From = b.From ∧ a.To = b.To ∧ a.Rate = b.Rate ∧ a.Delay = b.Delay
theorem sameC_refl (a : Contact) : sameC a a := ⟨rfl, rfl, rfl, rfl⟩
theorem sameC.symm {a b : Contact} (h : sameC a b) : sameC b a := ⟨h.1.symm, h.2.1.symm, h.2.2.1.symm, h.2.2.2.symm⟩
theorem sameC.trans {a b c : Contact} (h : sameC a b) (k : sameC b c) : sameC a c := ⟨h.1.trans k.1, h.2.1.trans k.2.1, h.2.2.1.trans k.2.2.1, h.2.2.2.trans k.2.2.2⟩
def Cov (l : List Contact) (k : Contact) (t : Int) : Prop := ∃ x ∈ l, sameC x k ∧ x.Start ≤ t ∧ t < x.End
def ValC (l : List Contact) : Prop := ∀ x ∈ l, x.Start < x.End
def sepC (x y : Contact) : Prop := sameC x y → x.End < y.Start ∨ y.End < x.Start
theorem sepC_symm {x y : Contact} (h : sepC x y) : sepC y x := fun hs => (h hs.symm).symm
theorem pw_mem {α : Type} {R : α → α → Prop} : ∀ {l : List α}, l.Pairwise R → ∀ {x y : α}, x ∈ l → y ∈ l → x = y ∨ R x y ∨ R y x
  | [], _, x, y, hx, _ => by simp at hx
  | a :: l, h, x, y, hx, hy => by
    obtain ⟨h1, h2⟩ := List.pairwise_cons.1 h
    rcases List.mem_cons.1 hx with ex | hx
    · rcases List.mem_cons.1 hy with ey | hy
      · exact .inl (ex.trans ey.symm)
      · exact .inr (.inl (ex ▸ h1 y hy))
    · rcases List.mem_cons.1 hy with ey | hy
      · exact .inr (.inr (ey ▸ h1 x hx))
      · exact pw_mem h2 hx hy
theorem sep_eq {l : List Contact} (h : l.Pairwise sepC) {x y : Contact} (hx : x ∈ l) (hy : y ∈ l) (hs : sameC x y) (h1 : y.Start ≤ x.End) (h2 : x.Start ≤ y.End) : x = y := by
  rcases pw_mem h hx hy with e | h | h
  · exact e
  · have := h hs; omega
  · have := h hs.symm; omega
theorem sep_nodup {l : List Contact} (h : l.Pairwise sepC) (hv : ValC l) : l.Nodup := by
  refine List.Pairwise.imp_of_mem ?_ h
  rintro x y hx hy hxy rfl
  have := hxy (sameC_refl x)
  have := hv x hx
  omega
theorem sep_sub {l l' : List Contact} (h : l.Pairwise sepC) (h' : l'.Pairwise sepC) (hv : ValC l) (hv' : ValC l') (hc : ∀ k t, Cov l k t ↔ Cov l' k t) {x : Contact} (hx : x ∈ l) : x ∈ l' := by
  have vx := hv x hx
  obtain ⟨y, hy, hs, h1, h2⟩ := (hc x x.Start).1 ⟨x, hx, sameC_refl x, Int.le_refl _, vx⟩
  have vy := hv' y hy
  have e1 : y.Start = x.Start := by
    apply Int.le_antisymm h1
    refine Int.not_lt.1 fun hlt => ?_
    obtain ⟨z, hz, zs, z1, z2⟩ := (hc x (x.Start - 1)).2 ⟨y, hy, hs, by omega, by omega⟩
    have := sep_eq h hz hx zs (by omega) (by omega)
    subst this
    omega
  have e2 : y.End = x.End := by
    rcases Int.lt_trichotomy y.End x.End with hlt | he | hgt
    · obtain ⟨z, hz, zs, z1, z2⟩ := (hc x y.End).1 ⟨x, hx, sameC_refl x, by omega, hlt⟩
      have := sep_eq h' hz hy (zs.trans hs.symm) (by omega) (by omega)
      subst this
      omega
    · exact he
    · obtain ⟨z, hz, zs, z1, z2⟩ := (hc x x.End).2 ⟨y, hy, hs, by omega, hgt⟩
      have := sep_eq h hz hx zs (by omega) (by omega)
      subst this
      omega
  have : y = x := by
    obtain ⟨a, b, c, d⟩ := hs
    cases x; cases y
    simp_all
  exact this ▸ hy
theorem nodup_perm {α : Type} [DecidableEq α] : ∀ {l l' : List α}, l.Nodup → l'.Nodup → (∀ x, x ∈ l ↔ x ∈ l') → l.Perm l'
  | [], l', _, _, h => by
    cases l' with
    | nil => exact List.Perm.refl _
    | cons y l' => exact absurd ((h y).2 (by simp)) (by simp)
  | x :: l, l', hn, hn', h => by
    obtain ⟨h1, h2⟩ := List.nodup_cons.1 hn
    have hx : x ∈ l' := (h x).1 (by simp)
    have hp := List.perm_cons_erase hx
    refine List.Perm.trans ?_ hp.symm
    refine List.Perm.cons x (nodup_perm h2 (hn'.sublist List.erase_sublist) fun y => ?_)
    rw [hn'.mem_erase_iff]
    constructor
    · intro hy
      exact ⟨fun e => h1 (e ▸ hy), (h y).1 (by simp [hy])⟩
    · rintro ⟨hne, hy⟩
      have := (h y).2 hy
      simp at this
      exact this.resolve_left hne
structure GoodF (l F : List Contact) : Prop where
  val : ValC F
  sep : F.Pairwise sepC
  cov : ∀ k t, Cov F k t ↔ Cov l k t
theorem GoodF.perm {l F F' : List Contact} (h : GoodF l F) (h' : GoodF l F') : F.Perm F' :=
  nodup_perm (sep_nodup h.sep h.val) (sep_nodup h'.sep h'.val) fun x => ⟨sep_sub h.sep h'.sep h.val h'.val fun k t => (h.cov k t).trans (h'.cov k t).symm, sep_sub h'.sep h.sep h'.val h.val fun k t => (h'.cov k t).trans (h.cov k t).symm⟩
theorem GoodF.congr {l l' F : List Contact} (h : GoodF l F) (hm : ∀ c, c ∈ l ↔ c ∈ l') : GoodF l' F :=
  ⟨h.val, h.sep, fun k t => (h.cov k t).trans ⟨fun ⟨x, hx, q⟩ => ⟨x, (hm x).1 hx, q⟩, fun ⟨x, hx, q⟩ => ⟨x, (hm x).2 hx, q⟩⟩⟩
theorem GoodF.src {l F : List Contact} (h : GoodF l F) {c : Contact} (hc : c ∈ F) : ∃ y ∈ l, sameC y c ∧ y.Start ≤ c.Start ∧ c.Start < y.End :=
  (h.cov c c.Start).1 ⟨c, hc, sameC_refl c, Int.le_refl _, h.val c hc⟩
theorem GoodF.ok {l F : List Contact} (h : GoodF l F) (ho : ∀ c ∈ l, OKC c) : ∀ c ∈ F, OKC c := by
  intro c hc
  have hv := h.val c hc
  obtain ⟨y, hy, hs, h1, h2⟩ := h.src hc
  obtain ⟨z, hz, zs, z1, z2⟩ := (h.cov c (c.End - 1)).1 ⟨c, hc, sameC_refl c, by omega, by omega⟩
  obtain ⟨a1, a2, a3, a4, a5, a6⟩ := ho y hy
  have a7 := (ho z hz).s
  obtain ⟨e1, e2, e3, e4⟩ := hs
  exact ⟨by omega, by omega, by omega, by omega, by omega, by omega⟩
structure JInv (pre out : List Contact) : Prop where
  good : GoodF pre out
  asc : out.Pairwise fun x y => x.Start ≤ y.Start
  src : ∀ x ∈ out, ∃ y ∈ pre, y.Start = x.Start ∧ y.From = x.From ∧ y.To = x.To
theorem JInv.nil : JInv [] [] := ⟨⟨by simp [ValC], by simp, fun k t => Iff.rfl⟩, by simp, by simp⟩
def extC (x c : Contact) : Contact := { x with End := max x.End c.End }
theorem JInv.ext {pre out : List Contact} {c x : Contact} {i : Nat} (h : JInv pre out) (hx : out[i]? = some x) (hp : ∀ y ∈ pre, y.From = c.From ∧ y.To = c.To) (hs : ∀ y ∈ pre, y.Start ≤ c.Start) (hc : c.Start < c.End) (hr : x.Rate = c.Rate) (hd : x.Delay = c.Delay) (hle : c.Start ≤ x.End) :
    JInv (pre ++ [c]) (out.set i (extC x c)) := by
  obtain ⟨hil, hxv⟩ := List.getElem?_eq_some_iff.1 hx
  have hxm : x ∈ out := List.mem_of_getElem? hx
  have vx := h.good.val x hxm
  obtain ⟨y0, hy0, b1, b2, b3⟩ := h.src x hxm
  have hpy := hp y0 hy0
  have hsx : x.Start ≤ c.Start := by have := hs y0 hy0; omega
  have hsame : sameC x c := ⟨by omega, by omega, hr, hd⟩
  have hst : ∀ z ∈ out, z.Start ≤ c.Start := fun z hz => by
    obtain ⟨y, hy, q, _⟩ := h.src z hz
    have := hs y hy
    omega
  have hmem : ∀ y, y ∈ out.set i (extC x c) → y = extC x c ∨ y ∈ out := fun y hy => (List.mem_or_eq_of_mem_set hy).symm
  have hsexp : (extC x c).Start = x.Start ∧ (extC x c).End = max x.End c.End := ⟨rfl, rfl⟩
  have hsx' : sameC (extC x c) x := ⟨rfl, rfl, rfl, rfl⟩
  have hin : extC x c ∈ out.set i (extC x c) := List.mem_iff_getElem?.2 ⟨i, List.getElem?_set_self hil⟩
  have hkeep : ∀ y ∈ out, y = x ∨ y ∈ out.set i (extC x c) := fun y hy => by
    obtain ⟨j, hj⟩ := List.mem_iff_getElem?.1 hy
    by_cases hij : i = j
    · subst hij; rw [hx] at hj; cases hj; exact .inl rfl
    · exact .inr (List.mem_iff_getElem?.2 ⟨j, by rw [List.getElem?_set_ne hij]; exact hj⟩)
  refine ⟨⟨fun y hy => ?_, ?_, fun k t => ⟨?_, ?_⟩⟩, ?_, fun y hy => ?_⟩
  · rcases hmem y hy with rfl | hy
    · rw [hsexp.1, hsexp.2]; omega
    · exact h.good.val y hy
  · rw [List.pairwise_iff_getElem]
    intro a b ha hb hab
    rw [List.length_set] at ha hb
    have q := List.pairwise_iff_getElem.1 h.good.sep a b ha hb hab
    have key : ∀ z ∈ out, z ≠ x → sepC x z → sepC (extC x c) z := by
      intro z hz hne q hs2
      have := q ((hsx'.symm).trans hs2)
      have := hst z hz
      rw [hsexp.1, hsexp.2]
      omega
    rw [List.getElem_set, List.getElem_set]
    by_cases ea : i = a
    · subst ea
      rw [if_pos rfl, if_neg (by omega)]
      rw [hxv] at q
      refine key _ (List.getElem_mem hb) (fun e => ?_) q
      have := q (e ▸ sameC_refl x)
      rw [e] at this; omega
    · rw [if_neg ea]
      by_cases eb : i = b
      · subst eb
        rw [if_pos rfl]
        rw [hxv] at q
        refine sepC_symm (key _ (List.getElem_mem ha) (fun e => ?_) (sepC_symm q))
        have := q (e ▸ sameC_refl x)
        rw [e] at this; omega
      · rw [if_neg eb]; exact q
  · rintro ⟨y, hy, hs1, h1, h2⟩
    rcases hmem y hy with rfl | hy
    · rw [hsexp.1] at h1
      rw [hsexp.2] at h2
      by_cases ht : t < x.End
      · obtain ⟨z, hz, q⟩ := (h.good.cov k t).1 ⟨x, hxm, (hsx'.symm).trans hs1, h1, ht⟩
        exact ⟨z, by simp [hz], q⟩
      · exact ⟨c, by simp, hsame.symm.trans ((hsx'.symm).trans hs1), by omega, by omega⟩
    · obtain ⟨z, hz, q⟩ := (h.good.cov k t).1 ⟨y, hy, hs1, h1, h2⟩
      exact ⟨z, by simp [hz], q⟩
  · rintro ⟨y, hy, hs1, h1, h2⟩
    rcases List.mem_append.1 hy with hy | hy
    · obtain ⟨z, hz, q1, q2, q3⟩ := (h.good.cov k t).2 ⟨y, hy, hs1, h1, h2⟩
      rcases hkeep z hz with rfl | hz'
      · exact ⟨_, hin, hsx'.trans q1, by rw [hsexp.1]; exact q2, by rw [hsexp.2]; omega⟩
      · exact ⟨z, hz', q1, q2, q3⟩
    · simp at hy; subst hy
      exact ⟨_, hin, hsx'.trans (hsame.trans hs1), by rw [hsexp.1]; omega, by rw [hsexp.2]; omega⟩
  · have e : (out.set i (extC x c)).map (·.Start) = out.map (·.Start) := by
      rw [List.map_set]
      apply List.ext_getElem?
      intro j
      by_cases hij : i = j
      · subst hij; rw [List.getElem?_set_self (by simpa using hil), List.getElem?_map, hx]; rfl
      · rw [List.getElem?_set_ne hij]
    have q := h.asc
    rw [show (fun x y : Contact => x.Start ≤ y.Start) = (fun x y => (fun a b : Int => a ≤ b) (Contact.Start x) (Contact.Start y)) from rfl, ← List.pairwise_map (f := Contact.Start) (R := fun a b : Int => a ≤ b)] at q ⊢
    rw [e]; exact q
  · rcases hmem y hy with rfl | hy
    · exact ⟨y0, by simp [hy0], b1, b2, b3⟩
    · obtain ⟨z, hz, q⟩ := h.src y hy
      exact ⟨z, by simp [hz], q⟩
theorem JInv.app {pre out : List Contact} {c : Contact} (h : JInv pre out) (hs : ∀ y ∈ pre, y.Start ≤ c.Start) (hc : c.Start < c.End) (hno : ∀ y ∈ out, y.Rate = c.Rate → y.Delay = c.Delay → y.End < c.Start) : JInv (pre ++ [c]) (out ++ [c]) := by
  refine ⟨⟨fun y hy => ?_, ?_, fun k t => ?_⟩, ?_, fun y hy => ?_⟩
  · rcases List.mem_append.1 hy with hy | hy
    · exact h.good.val y hy
    · simp at hy; subst hy; exact hc
  · rw [List.pairwise_append]
    exact ⟨h.good.sep, by simp, fun x hx y hy => by simp at hy; subst hy; exact fun hs => .inl (hno x hx hs.2.2.1 hs.2.2.2)⟩
  · constructor
    · rintro ⟨y, hy, q⟩
      rcases List.mem_append.1 hy with hy | hy
      · obtain ⟨z, hz, q'⟩ := (h.good.cov k t).1 ⟨y, hy, q⟩
        exact ⟨z, by simp [hz], q'⟩
      · exact ⟨y, by simp at hy; simp [hy], q⟩
    · rintro ⟨y, hy, q⟩
      rcases List.mem_append.1 hy with hy | hy
      · obtain ⟨z, hz, q'⟩ := (h.good.cov k t).2 ⟨y, hy, q⟩
        exact ⟨z, by simp [hz], q'⟩
      · exact ⟨y, by simp at hy; simp [hy], q⟩
  · rw [List.pairwise_append]
    refine ⟨h.asc, by simp, fun x hx y hy => ?_⟩
    simp at hy; subst hy
    obtain ⟨z, hz, q, _⟩ := h.src x hx
    have := hs z hz
    omega
  · rcases List.mem_append.1 hy with hy | hy
    · obtain ⟨z, hz, q⟩ := h.src y hy
      exact ⟨z, by simp [hz], q⟩
    · exact ⟨y, by simp at hy; simp [hy], rfl, rfl, rfl⟩
theorem JInv.none {pre out : List Contact} {c x : Contact} {i : Nat} (h : JInv pre out) (hx : out[i]? = some x) (hp : ∀ y ∈ pre, y.From = c.From ∧ y.To = c.To) (hr : x.Rate = c.Rate) (hd : x.Delay = c.Delay) (hlt : x.End < c.Start)
    (hlast : ∀ (j : Nat) y, i < j → out[j]? = some y → ¬ (y.Rate = c.Rate ∧ y.Delay = c.Delay)) : ∀ y ∈ out, y.Rate = c.Rate → y.Delay = c.Delay → y.End < c.Start := by
  intro y hy h1 h2
  obtain ⟨j, hj⟩ := List.mem_iff_getElem?.1 hy
  obtain ⟨hil, hxv⟩ := List.getElem?_eq_some_iff.1 hx
  obtain ⟨hjl, hyv⟩ := List.getElem?_eq_some_iff.1 hj
  rcases Nat.lt_trichotomy j i with q | q | q
  · have a1 := List.pairwise_iff_getElem.1 h.good.sep j i hjl hil q
    have a2 := List.pairwise_iff_getElem.1 h.asc j i hjl hil q
    rw [hxv, hyv] at a1 a2
    obtain ⟨z1, hz1, _, c1, c2⟩ := h.src x (List.mem_of_getElem? hx)
    obtain ⟨z2, hz2, _, d1, d2⟩ := h.src y hy
    have e1 := hp z1 hz1
    have e2 := hp z2 hz2
    have := a1 ⟨by omega, by omega, by omega, by omega⟩
    have := h.good.val x (List.mem_of_getElem? hx)
    have := h.good.val y hy
    omega
  · subst q; rw [hx] at hj; cases hj; exact hlt
  · exact absurd ⟨h1, h2⟩ (hlast j y q hj)
structure PairL (l : List Contact) : Prop where
  asc : l.Pairwise fun x y => x.Start ≤ y.Start
  val : ValC l
  pair : ∀ x ∈ l, ∀ y ∈ l, x.From = y.From ∧ x.To = y.To
theorem PairL.at {l : List Contact} (h : PairL l) {n : Nat} {c : Contact} (hc : l[n]? = some c) : (∀ y ∈ l.take n, y.From = c.From ∧ y.To = c.To) ∧ (∀ y ∈ l.take n, y.Start ≤ c.Start) ∧ c.Start < c.End ∧ l.take (n + 1) = l.take n ++ [c] := by
  have hcm := List.mem_of_getElem? hc
  refine ⟨fun y hy => h.pair y (List.mem_of_mem_take hy) c hcm, fun y hy => ?_, h.val c hcm, by rw [List.take_add_one, hc]; rfl⟩
  obtain ⟨j, hj⟩ := List.mem_iff_getElem?.1 hy
  rw [List.getElem?_take] at hj
  split at hj
  · rename_i hjn
    obtain ⟨h1, h2⟩ := List.getElem?_eq_some_iff.1 hj
    obtain ⟨h3, h4⟩ := List.getElem?_eq_some_iff.1 hc
    have := List.pairwise_iff_getElem.1 h.asc j n h1 h3 hjn
    rw [h2, h4] at this
    exact this
  · cases hj
theorem join_ex {l : List Contact} (h : PairL l) : ∀ n, n ≤ l.length → ∃ out, JInv (l.take n) out
  | 0, _ => ⟨[], by simpa using JInv.nil⟩
  | n + 1, hn => by
    obtain ⟨out, ho⟩ := join_ex h n (by omega)
    have hc : l[n]? = some l[n] := List.getElem?_eq_getElem (by omega)
    obtain ⟨q1, q2, q3, q4⟩ := h.at hc
    generalize l[n] = c at hc q1 q2 q3 q4
    rw [q4]
    by_cases hno : ∀ y ∈ out, y.Rate = c.Rate → y.Delay = c.Delay → y.End < c.Start
    · exact ⟨_, ho.app q2 q3 hno⟩
    · simp only [Classical.not_forall] at hno
      obtain ⟨y, hy, h1, h2, h3⟩ := hno
      obtain ⟨i, hi⟩ := List.mem_iff_getElem?.1 hy
      exact ⟨_, ho.ext hi q1 q2 q3 h1 h2 (by omega)⟩
theorem join_ex' {l : List Contact} (h : PairL l) : ∃ out, JInv l out := by
  obtain ⟨out, ho⟩ := join_ex h l.length (Nat.le_refl _)
  rw [List.take_length] at ho
  exact ⟨out, ho⟩
theorem JInv.apart {l out : List Contact} (h : JInv l out) (hp : PairL l) : out.Pairwise apartC ↔ ∀ (k i : Nat) x y, k < i → out[k]? = some x → out[i]? = some y → x.End ≤ y.Start := by
  rw [List.pairwise_iff_getElem]
  constructor
  · intro q k i x y hki hx hy
    obtain ⟨h1, h2⟩ := List.getElem?_eq_some_iff.1 hx
    obtain ⟨h3, h4⟩ := List.getElem?_eq_some_iff.1 hy
    have a1 := q k i h1 h3 hki
    have a2 := List.pairwise_iff_getElem.1 h.asc k i h1 h3 hki
    rw [h2, h4] at a1 a2
    obtain ⟨z1, hz1, _, c1, c2⟩ := h.src x (List.mem_of_getElem? hx)
    obtain ⟨z2, hz2, _, d1, d2⟩ := h.src y (List.mem_of_getElem? hy)
    have := hp.pair z1 hz1 z2 hz2
    have := a1 (by omega) (by omega)
    have := h.good.val x (List.mem_of_getElem? hx)
    have := h.good.val y (List.mem_of_getElem? hy)
    omega
  · intro q k i h1 h2 hki _ _
    exact .inl (q k i _ _ hki (List.getElem?_eq_getElem h1) (List.getElem?_eq_getElem h2))
def JR (l : List Contact) (r : List Contact × Bool) : Prop := ∃ out, JInv l out ∧ out.length ≤ l.length ∧ ((r.2 = true ∧ r.1 = out ∧ out.Pairwise apartC) ∨ (r.2 = false ∧ r.1 = [] ∧ ¬ out.Pairwise apartC))
def pairOf (c : Contact) : Int × Int := (c.From, c.To)
structure GP (l : List Contact) (G : List ((Int × Int) × List Contact)) : Prop where
  nd : (G.map (·.1)).Nodup
  eq : ∀ p ∈ G, p.2 = l.filter fun c => decide (pairOf c = p.1)
  all : ∀ c ∈ l, ∃ p ∈ G, pairOf c = p.1
theorem GP.mem {l : List Contact} {G : List ((Int × Int) × List Contact)} (h : GP l G) (c : Contact) : c ∈ l ↔ ∃ p ∈ G, c ∈ p.2 := by
  constructor
  · intro hc
    obtain ⟨p, hp, e⟩ := h.all c hc
    exact ⟨p, hp, by rw [h.eq p hp]; simp [hc, e]⟩
  · rintro ⟨p, hp, hc⟩
    rw [h.eq p hp] at hc
    exact (List.mem_filter.1 hc).1
theorem GP.pairL {l : List Contact} {G : List ((Int × Int) × List Contact)} (h : GP l G) (ha : l.Pairwise fun x y => x.Start ≤ y.Start) (hv : ValC l) {p : (Int × Int) × List Contact} (hp : p ∈ G) : PairL p.2 := by
  rw [h.eq p hp]
  refine ⟨ha.filter _, fun x hx => hv x (List.mem_filter.1 hx).1, fun x hx y hy => ?_⟩
  have h1 := (List.mem_filter.1 hx).2
  have h2 := (List.mem_filter.1 hy).2
  simp only [decide_eq_true_eq] at h1 h2
  have := h1.trans h2.symm
  simp only [pairOf, Prod.mk.injEq] at this
  exact this
theorem glue {l : List Contact} {G : List ((Int × Int) × List Contact)} (h : GP l G) (J : List (List Contact)) (hlen : J.length = G.length) (hJ : ∀ (i : Nat) p out, G[i]? = some p → J[i]? = some out → GoodF p.2 out) :
    GoodF l J.flatten ∧ (J.flatten.Pairwise apartC ↔ ∀ out ∈ J, out.Pairwise apartC) := by
  have hpair : ∀ (i : Nat) p out, G[i]? = some p → J[i]? = some out → ∀ x ∈ out, pairOf x = p.1 := by
    intro i p out hi ho x hx
    obtain ⟨y, hy, hs, _⟩ := (hJ i p out hi ho).src hx
    rw [h.eq p (List.mem_of_getElem? hi)] at hy
    have := (List.mem_filter.1 hy).2
    simp only [decide_eq_true_eq] at this
    rw [← this]
    unfold pairOf
    rw [hs.1, hs.2.1]
  have hG : ∀ (i : Nat) out, J[i]? = some out → ∃ p, G[i]? = some p := fun i out ho => by
    have : i < G.length := by rw [← hlen]; exact (List.getElem?_eq_some_iff.1 ho).1
    exact ⟨_, List.getElem?_eq_getElem this⟩
  have hJx : ∀ (i : Nat) p, G[i]? = some p → ∃ out, J[i]? = some out := fun i out ho => by
    have : i < J.length := by rw [hlen]; exact (List.getElem?_eq_some_iff.1 ho).1
    exact ⟨_, List.getElem?_eq_getElem this⟩
  have hcross : ∀ (a b : Nat) (ha : a < J.length) (hb : b < J.length), a < b → ∀ x ∈ J[a], ∀ y ∈ J[b], pairOf x ≠ pairOf y := by
    intro a b ha hb hab x hx y hy e
    obtain ⟨p, hp⟩ := hG a _ (List.getElem?_eq_getElem ha)
    obtain ⟨q, hq⟩ := hG b _ (List.getElem?_eq_getElem hb)
    have e1 := hpair a p _ hp (List.getElem?_eq_getElem ha) x hx
    have e2 := hpair b q _ hq (List.getElem?_eq_getElem hb) y hy
    have hn := h.nd
    rw [List.Nodup, List.pairwise_map, List.pairwise_iff_getElem] at hn
    obtain ⟨h1, h2⟩ := List.getElem?_eq_some_iff.1 hp
    obtain ⟨h3, h4⟩ := List.getElem?_eq_some_iff.1 hq
    have := hn a b h1 h3 hab
    rw [h2, h4] at this
    exact this (by rw [← e1, ← e2, e])
  refine ⟨⟨fun x hx => ?_, ?_, fun k t => ⟨?_, ?_⟩⟩, ?_⟩
  · obtain ⟨out, ho, hxo⟩ := List.mem_flatten.1 hx
    obtain ⟨i, hi⟩ := List.mem_iff_getElem?.1 ho
    obtain ⟨p, hp⟩ := hG i out hi
    exact (hJ i p out hp hi).val x hxo
  · rw [List.pairwise_flatten]
    refine ⟨fun out ho => ?_, ?_⟩
    · obtain ⟨i, hi⟩ := List.mem_iff_getElem?.1 ho
      obtain ⟨p, hp⟩ := hG i out hi
      exact (hJ i p out hp hi).sep
    · rw [List.pairwise_iff_getElem]
      intro a b ha hb hab x hx y hy hs
      exact absurd (by unfold pairOf; rw [hs.1, hs.2.1]) (hcross a b ha hb hab x hx y hy)
  · rintro ⟨x, hx, q⟩
    obtain ⟨out, ho, hxo⟩ := List.mem_flatten.1 hx
    obtain ⟨i, hi⟩ := List.mem_iff_getElem?.1 ho
    obtain ⟨p, hp⟩ := hG i out hi
    obtain ⟨z, hz, q'⟩ := ((hJ i p out hp hi).cov k t).1 ⟨x, hxo, q⟩
    exact ⟨z, (h.mem z).2 ⟨p, List.mem_of_getElem? hp, hz⟩, q'⟩
  · rintro ⟨x, hx, q⟩
    obtain ⟨p, hp, hxp⟩ := (h.mem x).1 hx
    obtain ⟨i, hi⟩ := List.mem_iff_getElem?.1 hp
    obtain ⟨out, ho⟩ := hJx i p hi
    obtain ⟨z, hz, q'⟩ := ((hJ i p out hi ho).cov k t).2 ⟨x, hxp, q⟩
    exact ⟨z, List.mem_flatten.2 ⟨out, List.mem_of_getElem? ho, hz⟩, q'⟩
  · rw [List.pairwise_flatten]
    refine ⟨fun q => q.1, fun q => ⟨q, ?_⟩⟩
    rw [List.pairwise_iff_getElem]
    intro a b ha hb hab x hx y hy e1 e2
    exact absurd (by unfold pairOf; rw [e1, e2]) (hcross a b ha hb hab x hx y hy)
end Go.Proofs.Ytjcbpfhlgebgdaa
namespace Go.Seq
open Go.RowKit Go.MapKept Go.ChangeMaps
section
variable {K α : Type} [DecidableEq K]
def glook : List (K × List α) → K → List α
  | [], _ => []
  | (k', l) :: G, k => if k' = k then l else glook G k
def gset : List (K × List α) → K → List α → List (K × List α)
  | [], k, l => [(k, l)]
  | (k', l') :: G, k, l => if k' = k then (k', l) :: G else (k', l') :: gset G k l
theorem glook_none : ∀ {G : List (K × List α)} {k : K}, (∀ p ∈ G, p.1 ≠ k) → glook G k = [] ∧ ∀ l, gset G k l = G ++ [(k, l)]
  | [], _, _ => ⟨rfl, fun _ => rfl⟩
  | (k', l') :: G, k, h => by
    have h1 := h (k', l') (by simp)
    obtain ⟨i1, i2⟩ := glook_none (G := G) (k := k) fun p hp => h p (by simp [hp])
    simp only [glook, gset, if_neg h1, i1, i2, List.cons_append, implies_true, and_self]
theorem glook_some : ∀ {G : List (K × List α)} {k : K} {l0 : List α} {j : Nat}, G[j]? = some (k, l0) → (∀ i p, i < j → G[i]? = some p → p.1 ≠ k) → glook G k = l0 ∧ ∀ l, gset G k l = G.set j (k, l)
  | [], _, _, _, h, _ => by simp at h
  | (k', l') :: G, k, l0, 0, h, _ => by
    simp only [List.getElem?_cons_zero, Option.some.injEq, Prod.mk.injEq] at h
    obtain ⟨rfl, rfl⟩ := h
    simp [glook, gset]
  | (k', l') :: G, k, l0, j + 1, h, hne => by
    have h1 := hne 0 (k', l') (by omega) rfl
    obtain ⟨i1, i2⟩ := glook_some (G := G) (k := k) (l0 := l0) (j := j) (by simpa using h) fun i p hi hp => hne (i + 1) p (by omega) (by simpa using hp)
    simp only [glook, gset, if_neg h1, i1, i2, List.set_cons_succ, implies_true, and_self]
end
section
variable {K α : Type} [DecidableEq K] (P : Program) (eT sz : Nat) (keyV : K → Value) (rowC : List α → List Value)
structure Grp (W : World) (M B : Nat) (es : Array MapEntry) (clock : Nat) (G : List (K × List α)) : Prop where
  heap : W.heap[B]? = some (.map es clock)
  st : Stamped es clock
  len : es.toList.length = G.length
  ent : ∀ (i : Nat) (e : MapEntry) (k : K) (l : List α), es.toList[i]? = some e → G[i]? = some (k, l) → e.key = keyV k ∧ W.ownsRow M eT sz e.val l.length (rowC l)
  ap : ∀ (i j : Nat) (e e' : MapEntry), es.toList[i]? = some e → es.toList[j]? = some e' → i ≠ j → e.val.ownBlock = none ∨ e.val.ownBlock ≠ e'.val.ownBlock
  lt : B < M
end
section
variable {K α : Type} {P : Program} {eT sz : Nat} {keyV : K → Value} {rowC : List α → List Value}
variable {W : World} {M B : Nat} {es : Array MapEntry} {clock : Nat} {G : List (K × List α)}
theorem Grp.made (W : World) (M : Nat) (h : W.heap.size < M) : Grp (α := α) eT sz keyV rowC (W.alloc (.map #[] 0)) M W.heap.size #[] 0 [] :=
  ⟨(MapKept.heap_alloc W _).1, stamped_empty 0, rfl, fun i e k l h => by simp at h, fun i j e e' h => by simp at h, h⟩
theorem own_kept2 {A C : World} {base : Nat} {e : TypeId} {size : Nat} {v : Value} {n : Nat} {xs : List Value} (h : A.ownsRow base e size v n xs)
    (hk : ∀ g, v.ownBlock = some g → base ≤ g → g < A.heap.size → C.heap[g]? = A.heap[g]?) : C.ownsRow base e size v n xs := by
  obtain ⟨hl, h0 | ⟨g, cap, cur, hv, hb, hh, r⟩⟩ := h
  · exact ⟨hl, .inl h0⟩
  · exact ⟨hl, .inr ⟨g, cap, cur, hv, hb, (hk g (by rw [hv]; rfl) hb (Array.getElem?_eq_some_iff.1 hh).1).trans hh, r⟩⟩
theorem own_blk2 {W : World} {base : Nat} {e : TypeId} {size : Nat} {v : Value} {n : Nat} {xs : List Value} (h : W.ownsRow base e size v n xs) {g : Nat} (hg : v.ownBlock = some g) : base ≤ g ∧ g < W.heap.size := h.lt g hg
theorem Grp.kept {W' : World} (h : Grp eT sz keyV rowC W M B es clock G) (hB : W'.heap[B]? = W.heap[B]?) (hM : ∀ g, M ≤ g → g < W.heap.size → (∃ e ∈ es.toList, e.val.ownBlock = some g) → W'.heap[g]? = W.heap[g]?) : Grp eT sz keyV rowC W' M B es clock G :=
  ⟨hB.trans h.heap, h.st, h.len, fun i e k l h1 h2 => by
    obtain ⟨q1, q2⟩ := h.ent i e k l h1 h2
    exact ⟨q1, own_kept2 q2 fun g hg hge hlt => hM g hge hlt ⟨e, List.mem_of_getElem? h1, hg⟩⟩, h.ap, h.lt⟩
end
section
variable {K α : Type} [DecidableEq K] {P : Program} {eT sz : Nat} {keyV : K → Value} {rowC : List α → List Value}
variable {W : World} {M B : Nat} {es : Array MapEntry} {clock : Nat} {G : List (K × List α)}
def GBack (P : Program) (t eT sz : Nat) (keyV : K → Value) (rowC : List α → List Value) (W : World) (M B : Nat) (G : List (K × List α)) (k : K) (v : Value) : Prop :=
  ∀ (W1 : World) (v' : Value) (l' : List α), W.grownBy W1 v.ownBlock → W1.ownsRow M eT sz v' l'.length (rowC l') → (v'.ownBlock = v.ownBlock ∨ v'.ownBlock = none ∨ ∃ g, v'.ownBlock = some g ∧ W.heap.size ≤ g) →
    ∃ W2 es' clock', (Instr.mapUpdate t (.map (some B)) (keyV k) v').run P W1 = .ok () W2 ∧ Grp eT sz keyV rowC W2 M B es' clock' (gset G k l') ∧ W1.grownBy W2 (some B) ∧ W2.heap.size = W1.heap.size
theorem get_inj_key (hst : Stamped es clock) {i j : Nat} {e e' : MapEntry} (h1 : es.toList[i]? = some e) (h2 : es.toList[j]? = some e') (hk : e.key = e'.key) : i = j := by
  have hp := ((stamped_iff es clock).1 hst).2.2
  obtain ⟨a1, a2⟩ := List.getElem?_eq_some_iff.1 h1
  obtain ⟨b1, b2⟩ := List.getElem?_eq_some_iff.1 h2
  rcases Nat.lt_trichotomy i j with q | q | q
  · exact absurd (by rw [a2, b2]; exact hk) (List.pairwise_iff_getElem.1 hp i j a1 b1 q)
  · exact q
  · exact absurd (by rw [a2, b2]; exact hk.symm) (List.pairwise_iff_getElem.1 hp j i b1 a1 q)
theorem Grp.at {t kt E : TypeId} {k : K} {kl : Lit} (h : Grp eT sz keyV rowC W M B es clock G) (hM : M ≤ W.heap.size) (hinj : ∀ a b, keyV a = keyV b → a = b) (Kd : Maps.Keyed P kt) (ht : P.underlying t = some (.map kt E)) (hz : (zeroValue E).run P W = .ok (.slice none 0 0) W)
    (hkeys : ∀ p ∈ G, ∃ l, keyOf P kt (keyV p.1) = some l) (hkey : keyOf P kt (keyV k) = some kl) (h0 : rowC [] = []) :
    ∃ v, (Instr.lookup t (.map (some B)) (keyV k) false).run P W = .ok v W ∧ W.ownsRow M eT sz v (glook G k).length (rowC (glook G k)) ∧ GBack P t eT sz keyV rowC W M B G k v ∧ (v = .slice none 0 0 ∨ ∃ e ∈ es.toList, v = e.val) := by
  have hg := h.heap
  have hst := h.st
  have hBlt : B < W.heap.size := (Array.getElem?_eq_some_iff.1 hg).1
  have hpair : ∀ (i : Nat) e, es.toList[i]? = some e → ∃ p, G[i]? = some p := fun i e he => by
    have : i < G.length := by rw [← h.len]; exact (List.getElem?_eq_some_iff.1 he).1
    exact ⟨_, List.getElem?_eq_getElem this⟩
  have hpair' : ∀ (i : Nat) p, G[i]? = some p → ∃ e, es.toList[i]? = some e := fun i p he => by
    have : i < es.toList.length := by rw [h.len]; exact (List.getElem?_eq_some_iff.1 he).1
    exact ⟨_, List.getElem?_eq_getElem this⟩
  have hks : ∀ e ∈ es.toList, ∃ l, keyOf P kt e.key = some l := fun e he => by
    obtain ⟨i, hi⟩ := List.mem_iff_getElem?.1 he
    obtain ⟨⟨k', l'⟩, hp⟩ := hpair i e hi
    obtain ⟨q, _⟩ := h.ent i e k' l' hi hp
    rw [q]
    exact hkeys _ (List.mem_of_getElem? hp)
  have hgb : ∀ (W1 : World) ob, W1.heap[B]? = some (.map es clock) → W1.grownBy { W1 with heap := W1.heap.setIfInBounds B ob } (some B) := fun W1 ob hb =>
    ⟨rfl, rfl, rfl, by simp, fun i _ hi => by show (W1.heap.setIfInBounds B ob)[i]? = _; rw [Array.getElem?_setIfInBounds_ne (fun e => hi (by rw [e]))]⟩
  have hnew : ∀ (W1 : World) ob, W1.heap[B]? = some (.map es clock) → ({ W1 with heap := W1.heap.setIfInBounds B ob } : World).heap[B]? = some ob := fun W1 ob hb => by
    have hlt := (Array.getElem?_eq_some_iff.1 hb).1
    simp [hlt]
  rcases Kd.find W hkey es.toList hks with ⟨f1, f2⟩ | ⟨j, e0, f1, f2, f3⟩
  · -- a new key
    have hno : ∀ p ∈ G, p.1 ≠ k := fun p hp e => by
      obtain ⟨i, hi⟩ := List.mem_iff_getElem?.1 hp
      obtain ⟨e', he'⟩ := hpair' i p hi
      obtain ⟨q, _⟩ := h.ent i e' p.1 p.2 he' hi
      exact f2 e' (List.mem_of_getElem? he') (by rw [q, e])
    obtain ⟨g1, g2⟩ := glook_none hno
    refine ⟨.slice none 0 0, ?_, by rw [g1, h0]; exact World.ownsRow_nil _ _ _ _, ?_, .inl rfl⟩
    · simp [Instr.lookup, run_underlying ht, MapKept.run_getObj_map hg, Kd.check W _ hkey, f1, hz, Result.andThen]
    · intro W1 v' l' hgr hown hloc
      have hb1 : W1.heap[B]? = some (.map es clock) := (hgr.block B hBlt (by simp [Value.ownBlock])).trans hg
      have fnd : (Instr.findKey kt (keyV k) es.toList).run P W1 = .ok none W1 := by
        rcases Kd.find W1 hkey es.toList hks with ⟨a1, _⟩ | ⟨j, e0, _, a2, a3⟩
        · exact a1
        · exact absurd a3 (f2 e0 (List.mem_of_getElem? a2))
      refine ⟨{ W1 with heap := W1.heap.setIfInBounds B (.map (es.push { key := keyV k, val := v', born := clock }) (clock + 1)) }, es.push { key := keyV k, val := v', born := clock }, clock + 1, ?_, ?_, hgb W1 _ hb1, by simp⟩
      · simp [Instr.mapUpdate, run_underlying ht, MapKept.run_getObj_map hb1, Kd.check W1 false hkey, fnd, MapKept.run_setObj_map _ hb1, Result.andThen]
      · rw [g2]
        have hown2 : ({ W1 with heap := W1.heap.setIfInBounds B (.map (es.push { key := keyV k, val := v', born := clock }) (clock + 1)) } : World).ownsRow M eT sz v' l'.length (rowC l') :=
          own_kept2 hown fun g _ hge _ => by show (W1.heap.setIfInBounds B _)[g]? = _; rw [Array.getElem?_setIfInBounds_ne (by have := h.lt; omega)]
        refine ⟨hnew W1 _ hb1, stamped_push hst f2, by simp [h.len], fun i e k' l'' he hp => ?_, fun i j e e' he he' hij => ?_, h.lt⟩
        · rw [Array.toList_push] at he
          rcases Nat.lt_or_ge i es.toList.length with hlt | hge
          · rw [List.getElem?_append_left hlt] at he
            rw [List.getElem?_append_left (by rw [← h.len]; exact hlt)] at hp
            obtain ⟨q1, q2⟩ := h.ent i e k' l'' he hp
            refine ⟨q1, own_kept2 (own_kept2 q2 fun g hg' _ hlt' => hgr.block g hlt' (by simp [Value.ownBlock])) fun g _ hge _ => ?_⟩
            show (W1.heap.setIfInBounds B _)[g]? = _
            rw [Array.getElem?_setIfInBounds_ne (by have := h.lt; omega)]
          · rw [List.getElem?_append_right hge] at he
            rw [List.getElem?_append_right (by rw [← h.len]; exact hge)] at hp
            have hi0 : i - es.toList.length = 0 := by
              rcases Nat.eq_zero_or_pos (i - es.toList.length) with q | q
              · exact q
              · rw [List.getElem?_eq_none (by simp only [List.length_cons, List.length_nil]; omega)] at he; cases he
            rw [hi0] at he
            rw [← h.len, hi0] at hp
            simp only [List.getElem?_cons_zero, Option.some.injEq, Prod.mk.injEq] at he hp
            obtain ⟨rfl, rfl⟩ := hp
            subst he
            exact ⟨rfl, hown2⟩
        · have old : ∀ (i : Nat) e, es.toList[i]? = some e → e.val.ownBlock = none ∨ (e.val.ownBlock ≠ v'.ownBlock) := fun i e he => by
            obtain ⟨⟨k', l''⟩, hp⟩ := hpair i e he
            obtain ⟨_, q2⟩ := h.ent i e k' l'' he hp
            cases ho : e.val.ownBlock with
            | none => exact .inl rfl
            | some g =>
              refine .inr fun e1 => ?_
              have := (own_blk2 q2 ho).2
              rcases hloc with h1 | h1 | ⟨g', h1, h2⟩
              · rw [h1] at e1; simp [Value.ownBlock] at e1
              · rw [h1] at e1; cases e1
              · rw [h1] at e1; cases e1; omega
          rw [Array.toList_push] at he he'
          rcases Nat.lt_or_ge i es.toList.length with hlt | hge <;> rcases Nat.lt_or_ge j es.toList.length with hlt' | hge'
          · rw [List.getElem?_append_left hlt] at he
            rw [List.getElem?_append_left hlt'] at he'
            exact h.ap i j e e' he he' hij
          · rw [List.getElem?_append_left hlt] at he
            rw [List.getElem?_append_right hge'] at he'
            have := List.mem_of_getElem? he'
            simp at this
            subst this
            exact old i e he
          · rw [List.getElem?_append_right hge] at he
            rw [List.getElem?_append_left hlt'] at he'
            have := List.mem_of_getElem? he
            simp at this
            subst this
            rcases old j e' he' with q | q
            · cases hv : v'.ownBlock with
              | none => exact .inl (by first | rfl | exact hv)
              | some g => exact .inr (by rw [q]; simp)
            · exact .inr (Ne.symm q)
          · have a1 := (List.getElem?_eq_some_iff.1 he).1
            have a2 := (List.getElem?_eq_some_iff.1 he').1
            simp at a1 a2
            simp at hge hge'
            omega
  · -- a key that is there
    obtain ⟨⟨k', l0⟩, hp⟩ := hpair j e0 f2
    obtain ⟨q1, q2⟩ := h.ent j e0 k' l0 f2 hp
    have hkk : k' = k := hinj _ _ (q1.symm.trans f3)
    subst hkk
    have hne : ∀ i p, i < j → G[i]? = some p → p.1 ≠ k' := fun i p hi hpi e => by
      obtain ⟨e', he'⟩ := hpair' i p hpi
      obtain ⟨r1, _⟩ := h.ent i e' p.1 p.2 he' hpi
      have := get_inj_key hst he' f2 (by rw [r1, q1, e])
      omega
    obtain ⟨g1, g2⟩ := glook_some hp hne
    refine ⟨e0.val, ?_, by rw [g1]; exact q2, ?_, .inr ⟨e0, List.mem_of_getElem? f2, rfl⟩⟩
    · simp [Instr.lookup, run_underlying ht, MapKept.run_getObj_map hg, Kd.check W _ hkey, f1, Result.andThen]
    · intro W1 v' l' hgr hown hloc
      have hvB : some B ≠ e0.val.ownBlock := fun e => by have := (own_blk2 q2 e.symm).1; have := h.lt; omega
      have hb1 : W1.heap[B]? = some (.map es clock) := (hgr.block B hBlt hvB).trans hg
      have fnd : (Instr.findKey kt (keyV k') es.toList).run P W1 = .ok (some (j, e0.val)) W1 := by
        rcases Kd.find W1 hkey es.toList hks with ⟨_, a2⟩ | ⟨j', e', a1, a2, a3⟩
        · exact absurd f3 (a2 e0 (List.mem_of_getElem? f2))
        · have := get_inj_key hst a2 f2 (by rw [a3, f3])
          subst this
          rw [f2] at a2; cases a2
          exact a1
      have hj : es[j]? = some e0 := by simpa using f2
      have hlist : (es.modify j (fun e' => { e' with key := keyV k', val := v' })).toList = es.toList.set j { e0 with key := keyV k', val := v' } := by
        rw [Array.toList_modify, ChangeMaps.modify_eq_set _ _ _ _ f2]
      have hke : ((es[j]?).map (·.key)).getD (keyV k') = keyV k' := by rw [hj]; simpa using f3
      refine ⟨{ W1 with heap := W1.heap.setIfInBounds B (.map (es.modify j (fun e' => { e' with key := keyV k', val := v' })) clock) }, es.modify j (fun e' => { e' with key := keyV k', val := v' }), clock, ?_, ?_, hgb W1 _ hb1, by simp⟩
      · simp [Instr.mapUpdate, run_underlying ht, MapKept.run_getObj_map hb1, Kd.check W1 false hkey, fnd, hke, Kd.stays W1 hkey, MapKept.run_setObj_map _ hb1, Result.andThen]
      · rw [g2]
        have hown2 : ({ W1 with heap := W1.heap.setIfInBounds B (.map (es.modify j (fun e' => { e' with key := keyV k', val := v' })) clock) } : World).ownsRow M eT sz v' l'.length (rowC l') :=
          own_kept2 hown fun g _ hge _ => by show (W1.heap.setIfInBounds B _)[g]? = _; rw [Array.getElem?_setIfInBounds_ne (by have := h.lt; omega)]
        have hjl := (List.getElem?_eq_some_iff.1 f2).1
        have hjg := (List.getElem?_eq_some_iff.1 hp).1
        refine ⟨hnew W1 _ hb1, stamped_modify hst j _ (fun _ _ => rfl) (fun e' _ he' => by rw [hj] at he'; cases he'; exact f3.symm), by rw [hlist]; simp [h.len], fun i e k2 l2 he hpi => ?_, fun i i' e e' he he' hii => ?_, h.lt⟩
        · rw [hlist] at he
          by_cases hij : j = i
          · subst hij
            rw [List.getElem?_set_self hjl] at he
            rw [List.getElem?_set_self hjg] at hpi
            cases he; cases hpi
            exact ⟨rfl, hown2⟩
          · rw [List.getElem?_set_ne hij] at he hpi
            obtain ⟨r1, r2⟩ := h.ent i e k2 l2 he hpi
            refine ⟨r1, own_kept2 (own_kept2 r2 fun g hg' _ hlt' => hgr.block g hlt' ?_) fun g _ hge _ => ?_⟩
            · rcases h.ap i j e e0 he f2 (Ne.symm hij) with q | q
              · rw [hg'] at q; cases q
              · rw [← hg']; exact q
            · show (W1.heap.setIfInBounds B _)[g]? = _
              rw [Array.getElem?_setIfInBounds_ne (by have := h.lt; omega)]
        · have old : ∀ (i : Nat) e, i ≠ j → es.toList[i]? = some e → e.val.ownBlock = none ∨ (e.val.ownBlock ≠ v'.ownBlock) := fun i e hij he => by
            rcases hloc with h1 | h1 | ⟨g', h1, h2⟩
            · rw [h1]; exact h.ap i j e e0 he f2 hij
            · cases ho : e.val.ownBlock with
              | none => exact .inl rfl
              | some g => rw [h1]; exact .inr (by simp)
            · obtain ⟨⟨k2, l2⟩, hpi⟩ := hpair i e he
              obtain ⟨_, r2⟩ := h.ent i e k2 l2 he hpi
              cases ho : e.val.ownBlock with
              | none => exact .inl rfl
              | some g =>
                refine .inr fun e1 => ?_
                have := (own_blk2 r2 ho).2
                rw [h1] at e1; cases e1; omega
          rw [hlist] at he he'
          by_cases hij : j = i
          · subst hij
            rw [List.getElem?_set_self hjl] at he
            rw [List.getElem?_set_ne hii] at he'
            cases he
            rcases old i' e' (Ne.symm hii) he' with q | q
            · cases hv : v'.ownBlock with
              | none => exact .inl (by first | rfl | exact hv)
              | some g => exact .inr (by rw [q]; simp)
            · exact .inr (Ne.symm q)
          · rw [List.getElem?_set_ne hij] at he
            by_cases hij' : j = i'
            · subst hij'
              rw [List.getElem?_set_self hjl] at he'
              cases he'
              exact old i e (Ne.symm hij) he
            · rw [List.getElem?_set_ne hij'] at he'
              exact h.ap i i' e e' he he' hii
end
section
variable {K α : Type} [DecidableEq K] {P : Program} {eT sz : Nat} {keyV : K → Value} {rowC : List α → List Value}
variable {W : World} {M B : Nat} {es : Array MapEntry} {clock : Nat} {G : List (K × List α)}
variable {ops : Array Oper} {rest : List Oper} {o : Oper} {a : Act} {Q : Exit → Act → World → Prop}
structure Rng (W : World) (B r : Nat) (es : Array MapEntry) (since : Nat) (seen : Array Nat) (is : List Nat) : Prop where
  it : ∃ c0, W.heap[r]? = some (.mapIter (some B) since seen c0) ∧ since ≤ c0
  old : ∀ x ∈ es.toList, x.born < since
  sd : seen.toList = is.map fun i => (es.toList[i]?.map (·.born)).getD 0
  lt : ∀ i ∈ is, i < es.toList.length
  nd : is.Nodup
  ne : r ≠ B
theorem Rng.kept {W' : World} {r since : Nat} {seen : Array Nat} {is : List Nat} (h : Rng W B r es since seen is) (hr : W'.heap[r]? = W.heap[r]?) : Rng W' B r es since seen is :=
  ⟨let ⟨c0, h1, h2⟩ := h.it; ⟨c0, hr.trans h1, h2⟩, h.old, h.sd, h.lt, h.nd, h.ne⟩
theorem get_inj_born (hst : Stamped es clock) {i j : Nat} {e e' : MapEntry} (h1 : es.toList[i]? = some e) (h2 : es.toList[j]? = some e') (hk : e.born = e'.born) : i = j := by
  have hp := ((stamped_iff es clock).1 hst).2.1
  have a1 : (es.toList.map (·.born))[i]? = some e.born := by rw [List.getElem?_map, h1]; rfl
  have a2 : (es.toList.map (·.born))[j]? = some e.born := by rw [List.getElem?_map, h2, hk]; rfl
  obtain ⟨b1, b2⟩ := List.getElem?_eq_some_iff.1 a1
  obtain ⟨c1, c2⟩ := List.getElem?_eq_some_iff.1 a2
  rcases Nat.lt_trichotomy i j with q | q | q
  · exact absurd (b2.trans c2.symm) (List.pairwise_iff_getElem.1 hp i j b1 c1 q)
  · exact q
  · exact absurd (c2.trans b2.symm) (List.pairwise_iff_getElem.1 hp j i c1 b1 q)
end
section
variable {K α : Type} {P : Program} {eT sz : Nat} {keyV : K → Value} {rowC : List α → List Value}
variable {W : World} {M B : Nat} {es : Array MapEntry} {clock : Nat} {G : List (K × List α)}
variable {ops : Array Oper} {rest : List Oper} {o : Oper} {a : Act} {Q : Exit → Act → World → Prop}
theorem wpList_range_grp (hg : o.guard = none) (m : Operand) (t : TypeId) (hop : o.op = Op.range t m) {kt E : TypeId} (ht : P.underlying t = some (.map kt E)) (h : Grp eT sz keyV rowC W M B es clock G) (hm : a.eval m = .map (some B))
    (hK : Rng (W.alloc (.mapIter (some B) clock #[] clock)) B W.heap.size es clock #[] [] → wpList P ops Q rest (a.put o.dst (.pointer (some ⟨W.heap.size, 0, none⟩))) (W.alloc (.mapIter (some B) clock #[] clock))) :
    wpList P ops Q (o :: rest) a W := by
  refine wpList_plain hg fun K' hK' => ?_
  have hrun := run_range_map W t kt E B es clock ht h.heap
  have hlt : B < W.heap.size := (Array.getElem?_eq_some_iff.1 h.heap).1
  unfold Oper.wp
  simp [execOp, hop, hm, hrun, Result.andThen]
  exact hK' _ _ (hK ⟨⟨clock, (MapKept.heap_alloc W _).1, Nat.le_refl _⟩, ((stamped_iff es clock).1 h.st).1, rfl, by simp, by simp, by omega⟩)
end
section
variable {K α : Type} {P : Program} {eT sz : Nat} {keyV : K → Value} {rowC : List α → List Value}
variable {W : World} {M B : Nat} {es : Array MapEntry} {clock : Nat} {G : List (K × List α)}
variable {ops : Array Oper} {rest : List Oper} {o : Oper} {a : Act} {Q : Exit → Act → World → Prop}
theorem wpList_next_grp (hg : o.guard = none) (it : Operand) (hop : o.op = Op.next it false) {r since : Nat} {seen : Array Nat} {is : List Nat} (h : Grp eT sz keyV rowC W M B es clock G) (hr : Rng W B r es since seen is) (hs : since ≤ clock) (hit : a.eval it = .pointer (some ⟨r, 0, none⟩))
    (hDone : (∀ i, i < es.toList.length → i ∈ is) → wpList P ops Q rest (a.put o.dst (.tuple #[.bool false])) W)
    (hMore : ∀ (i : Nat) (k : K) (l : List α) (v : Value) (W' : World) (seen' : Array Nat), G[i]? = some (k, l) → W.ownsRow M eT sz v l.length (rowC l) → Grp eT sz keyV rowC W' M B es clock G → i ∉ is → Rng W' B r es since seen' (is ++ [i]) → W'.rangeLeft B r < W.rangeLeft B r → W.grownBy W' (some r) → W'.heap.size = W.heap.size → (∀ g, v.ownBlock = some g → g ≠ r) →
      (Instr.entry (.pointer (some ⟨r, 0, none⟩))).run P W' = .ok (.tuple #[keyV k, v]) W' → wpList P ops Q rest (a.put o.dst (.tuple #[.bool true, keyV k, v])) W') (hrM : r < M ∨ ∀ (i : Nat) (e : MapEntry) (g : Nat), es.toList[i]? = some e → e.val.ownBlock = some g → g ≠ r) :
    wpList P ops Q (o :: rest) a W := by
  refine wpList_plain hg fun K' hK' => ?_
  obtain ⟨c0, hri, hsc⟩ := hr.it
  have hseen : ∀ (i : Nat) e, es.toList[i]? = some e → (seen.contains e.born = true ↔ i ∈ is) := fun i e he => by
    rw [← Array.contains_toList, hr.sd, List.contains_iff_mem, List.mem_map]
    constructor
    · rintro ⟨j, hj, hb⟩
      have hjl := hr.lt j hj
      have hje := List.getElem?_eq_getElem hjl
      rw [hje] at hb
      have := get_inj_born h.st hje he (by simpa using hb)
      exact this ▸ hj
    · intro hi
      exact ⟨i, hi, by rw [he]; rfl⟩
  rcases run_next_at (P := P) W o.type r B since c0 seen es clock hri h.heap hr.old hsc with ⟨h0, hrun⟩ | ⟨e, he, w1, hal, hrun⟩
  · unfold Oper.wp
    simp [execOp, hop, hit, hrun, Result.andThen]
    exact hK' _ _ (hDone fun i hi => (hseen i _ (List.getElem?_eq_getElem hi)).1 (all_seen es seen h0 _ (List.getElem_mem hi)))
  · obtain ⟨hem, hes⟩ := mem_left he
    obtain ⟨i, hi⟩ := List.mem_iff_getElem?.1 hem
    have hil := (List.getElem?_eq_some_iff.1 hi).1
    have hiG : i < G.length := by rw [← h.len]; exact hil
    obtain ⟨⟨k, l⟩, hG⟩ : ∃ p, G[i]? = some p := ⟨_, List.getElem?_eq_getElem hiG⟩
    obtain ⟨q1, q2⟩ := h.ent i e k l hi hG
    have hr1 : w1.heap[r]? = some (.mapIter (some B) since seen c0) := by rcases hal with rfl | rfl <;> exact hri
    have hset := heap_set (o' := .mapIter (some B) since (seen.push e.born) clock) hr1
    have hblk : ∀ j, j ≠ r → (setBlock w1 r (.mapIter (some B) since (seen.push e.born) clock)).heap[j]? = W.heap[j]? := fun j hj => (hset.2 j hj).trans (by rcases hal with rfl | rfl <;> rfl)
    have hsz : (setBlock w1 r (.mapIter (some B) since (seen.push e.born) clock)).heap.size = W.heap.size := by rcases hal with rfl | rfl <;> simp [setBlock]
    have hblk2 : ∀ g e', e' ∈ es.toList → e'.val.ownBlock = some g → g ≠ r := fun g e' he' hg' => by
      obtain ⟨j, hj⟩ := List.mem_iff_getElem?.1 he'
      rcases hrM with h1 | h1
      · have hjG : j < G.length := by rw [← h.len]; exact (List.getElem?_eq_some_iff.1 hj).1
        obtain ⟨⟨k2, l2⟩, hG2⟩ : ∃ p, G[j]? = some p := ⟨_, List.getElem?_eq_getElem hjG⟩
        have := (own_blk2 (h.ent j e' k2 l2 hj hG2).2 hg').1
        omega
      · exact h1 j e' g hj hg'
    have hgrp : Grp eT sz keyV rowC (setBlock w1 r (.mapIter (some B) since (seen.push e.born) clock)) M B es clock G := h.kept (hblk B (Ne.symm hr.ne)) fun g _ _ ⟨e', he', hg'⟩ => hblk g (hblk2 g e' he' hg')
    have hni : i ∉ is := fun hm => by rw [(hseen i e hi).2 hm] at hes; cases hes
    have hlft : ∀ (W0 : World) (sn : Array Nat) (c1 : Nat), W0.heap[B]? = some (.map es clock) → W0.heap[r]? = some (.mapIter (some B) since sn c1) → W0.rangeLeft B r = (leftOf es sn).size := fun W0 sn c1 h1 h2 => by
      simp only [World.rangeLeft, h1, h2]
    unfold Oper.wp
    rw [q1] at hrun
    simp [execOp, hop, hit, hrun, Result.andThen]
    refine hK' _ _ (hMore i k l e.val _ (seen.push e.born) hG q2 hgrp hni ⟨⟨clock, hset.1, hs⟩, hr.old, ?_, ?_, ?_, hr.ne⟩ ?_ ?_ hsz (fun g hg' => hblk2 g e hem hg') ?_)
    · rw [Array.toList_push, hr.sd, List.map_append]
      simp [show es[i]? = some e by simpa using hi]
    · intro j hj
      rcases List.mem_append.1 hj with hj | hj
      · exact hr.lt j hj
      · simp at hj; subst hj; exact hil
    · refine List.nodup_append.2 ⟨hr.nd, by simp, fun x hx y hy => ?_⟩
      simp at hy; subst hy
      exact fun e1 => hni (e1 ▸ hx)
    · rw [hlft _ _ _ hgrp.heap hset.1, hlft W seen c0 h.heap hri]
      exact left_shrinks es seen e he
    · refine ⟨?_, ?_, ?_, by omega, fun j _ hj => hblk j (fun e1 => hj (by rw [e1]))⟩ <;> (rcases hal with rfl | rfl <;> rfl)
    · have := run_entry_at (P := P) _ r B since seen es clock e hset.1 hgrp.heap hem ((stamped_iff es clock).1 h.st).2.1
      rw [q1] at this
      exact this
end
end Go.Seq
namespace Go.Proofs.Ytjcbpfhlgebgdaa
open Go.X Go.Eng Go.Seq
section
variable {K α : Type} [DecidableEq K]
theorem glook_mem : ∀ {G : List (K × List α)} {k : K} {l : List α}, (G.map (·.1)).Nodup → (k, l) ∈ G → glook G k = l
  | [], _, _, _, h => by simp at h
  | (k', l') :: G, k, l, hn, h => by
    simp only [List.map_cons, List.nodup_cons] at hn
    rcases List.mem_cons.1 h with e | h
    · cases e; simp [glook]
    · have hne : k' ≠ k := fun e => hn.1 (e ▸ List.mem_map.2 ⟨(k, l), h, rfl⟩)
      simp only [glook, if_neg hne]
      exact glook_mem hn.2 h
theorem mem_gset : ∀ {G : List (K × List α)} {k : K} {l : List α} {p : K × List α}, (G.map (·.1)).Nodup → (p ∈ gset G k l ↔ p = (k, l) ∨ (p ∈ G ∧ p.1 ≠ k))
  | [], k, l, p, _ => by simp [gset]
  | (k', l') :: G, k, l, p, hn => by
    simp only [List.map_cons, List.nodup_cons] at hn
    simp only [gset]
    split
    · rename_i e
      subst e
      simp only [List.mem_cons]
      constructor
      · rintro (h | h)
        · exact .inl h
        · exact .inr ⟨.inr h, fun e => hn.1 (e ▸ List.mem_map.2 ⟨p, h, rfl⟩)⟩
      · rintro (h | ⟨h | h, h2⟩)
        · exact .inl h
        · subst h; exact absurd rfl h2
        · exact .inr h
    · rename_i hne
      simp only [List.mem_cons, mem_gset (p := p) hn.2]
      constructor
      · rintro (h | h | h)
        · subst h; exact .inr ⟨.inl rfl, hne⟩
        · exact .inl h
        · exact .inr ⟨.inr h.1, h.2⟩
      · rintro (h | ⟨h | h, h2⟩)
        · exact .inr (.inl h)
        · exact .inl h
        · exact .inr (.inr ⟨h, h2⟩)
theorem gset_keys : ∀ {G : List (K × List α)} {k : K} {l : List α}, (G.map (·.1)).Nodup → ((gset G k l).map (·.1)).Nodup
  | [], k, l, _ => by simp [gset]
  | (k', l') :: G, k, l, hn => by
    have hn' := hn
    simp only [List.map_cons, List.nodup_cons] at hn
    simp only [gset]
    split
    · simpa using hn'
    · rename_i hne
      simp only [List.map_cons, List.nodup_cons]
      refine ⟨fun h => ?_, gset_keys hn.2⟩
      obtain ⟨p, hp, e⟩ := List.mem_map.1 h
      rcases (mem_gset hn.2).1 hp with h | h
      · subst h; exact hne e.symm
      · exact hn.1 (e ▸ List.mem_map.2 ⟨p, h.1, rfl⟩)
end
theorem GP.nil : GP [] [] := ⟨by simp, by simp, by simp⟩
theorem GP.step {l : List Contact} {G : List ((Int × Int) × List Contact)} (h : GP l G) (c : Contact) : GP (l ++ [c]) (gset G (pairOf c) (glook G (pairOf c) ++ [c])) := by
  have hl : glook G (pairOf c) = l.filter fun d => decide (pairOf d = pairOf c) := by
    by_cases hk : ∃ p ∈ G, p.1 = pairOf c
    · obtain ⟨⟨k, l'⟩, hp, e⟩ := hk
      dsimp only at e
      subst e
      rw [glook_mem h.nd hp]
      exact h.eq _ hp
    · have hno : ∀ p ∈ G, p.1 ≠ pairOf c := fun p hp e => hk ⟨p, hp, e⟩
      rw [(glook_none hno).1]
      symm
      rw [List.filter_eq_nil_iff]
      intro d hd
      simp only [decide_eq_true_eq]
      intro e
      obtain ⟨p, hp, e'⟩ := h.all d hd
      exact hno p hp (e'.symm.trans e)
  refine ⟨gset_keys h.nd, fun p hp => ?_, fun d hd => ?_⟩
  · rcases (mem_gset h.nd).1 hp with h1 | h1
    · subst h1
      dsimp only
      rw [List.filter_append, hl]
      simp
    · rw [List.filter_append, ← h.eq p h1.1]
      have : (List.filter (fun d => decide (pairOf d = p.1)) [c]) = [] := by
        rw [List.filter_eq_nil_iff]
        intro d hd
        simp at hd; subst hd
        simp only [decide_eq_true_eq]
        exact fun e => h1.2 e.symm
      rw [this, List.append_nil]
  · rcases List.mem_append.1 hd with hd | hd
    · obtain ⟨p, hp, e⟩ := h.all d hd
      by_cases hk : p.1 = pairOf c
      · exact ⟨_, (mem_gset h.nd).2 (.inl rfl), e.trans hk⟩
      · exact ⟨p, (mem_gset h.nd).2 (.inr ⟨hp, hk⟩), e⟩
    · simp at hd; subst hd
      exact ⟨_, (mem_gset h.nd).2 (.inl rfl), rfl⟩
end Go.Proofs.Ytjcbpfhlgebgdaa
namespace Go.Proofs.Ytjcbpfhlgebgdaa
open Go.X Go.Eng
def SRF (F : List Contact) (r : List Contact × Int) : Prop :=
  (¬ F.Pairwise apartC ∧ r = ([], 12)) ∨ (F.Pairwise apartC ∧ 200 < F.length ∧ r = ([], 5)) ∨ (F.Pairwise apartC ∧ F.length ≤ 200 ∧ Valid r.1 ∧ r.1.Perm F ∧ r.2 = 0)
theorem SRF.det {F F' : List Contact} {r r' : List Contact × Int} (hp : F.Perm F') (h : SRF F r) (h' : SRF F' r') : r = r' := by
  have ha := apart_perm hp
  have hl := hp.length_eq
  rcases h with ⟨h1, rfl⟩ | ⟨h1, h2, rfl⟩ | ⟨h1, h2, h3, h4, h5⟩ <;> rcases h' with ⟨k1, rfl⟩ | ⟨k1, k2, rfl⟩ | ⟨k1, k2, k3, k4, k5⟩ <;>
    first
    | rfl
    | (exfalso; omega)
    | exact absurd (ha.1 h1) k1
    | exact absurd (ha.2 k1) h1
    | exact Prod.ext (valid_perm h3 k3 (h4.trans (hp.trans k4.symm))) (h5.trans k5.symm)
def MR0 (a b : List Contact) (r : List Contact × Int) : Prop :=
  (∃ e n, plan_Check a = some (e, n) ∧ e ≠ 0 ∧ r = ([], e)) ∨ ((∃ n, plan_Check a = some (0, n)) ∧ ∃ e n, plan_Check b = some (e, n) ∧ e ≠ 0 ∧ r = ([], e)) ∨
    ((∃ n, plan_Check a = some (0, n)) ∧ (∃ n, plan_Check b = some (0, n)) ∧ ∃ F, GoodF (a ++ b) F ∧ SRF F r)
def G0 (a b : List Contact) : Prop := (∃ n, plan_Check a = some (0, n)) → (∃ n, plan_Check b = some (0, n)) → (∀ c ∈ a ++ b, OKC c) ∧ a.length ≤ 200 ∧ b.length ≤ 200
theorem MR0.det {a b : List Contact} {r r' : List Contact × Int} (h : MR0 a b r) (h' : MR0 a b r') : r = r' := by
  rcases h with ⟨e, n, h1, h2, rfl⟩ | ⟨⟨n0, h0⟩, e, n, h1, h2, rfl⟩ | ⟨⟨n0, h0⟩, ⟨n1, h1⟩, F, h2, h3⟩ <;> rcases h' with ⟨e', n', k1, k2, rfl⟩ | ⟨⟨m0, k0⟩, e', n', k1, k2, rfl⟩ | ⟨⟨m0, k0⟩, ⟨m1, k1⟩, F', k2, k3⟩
  · rw [h1] at k1; cases k1; rfl
  · rw [h1] at k0; cases k0; exact absurd rfl h2
  · rw [h1] at k0; cases k0; exact absurd rfl h2
  · rw [h0] at k1; cases k1; exact absurd rfl k2
  · rw [h1] at k1; cases k1; rfl
  · rw [h1] at k1; cases k1; exact absurd rfl h2
  · rw [h0] at k1; cases k1; exact absurd rfl k2
  · rw [h1] at k1; cases k1; exact absurd rfl k2
  · exact SRF.det (h2.perm k2) h3 k3
end Go.Proofs.Ytjcbpfhlgebgdaa
namespace Go.Proofs.Ytjcbpfhlgebgdaa
open Go.X Go.Eng Go.Seq
theorem gset_length {K α : Type} [DecidableEq K] : ∀ (G : List (K × List α)) (k : K) (l : List α), (gset G k l).length ≤ G.length + 1
  | [], k, l => by simp [gset]
  | (k', l') :: G, k, l => by
    simp only [gset]
    split
    · simp
    · have := gset_length G k l
      simp; omega
theorem nodup_le : ∀ (m : Nat) (is : List Nat), is.Nodup → (∀ i ∈ is, i < m) → is.length ≤ m
  | 0, is, _, h => by
    cases is with
    | nil => simp
    | cons i is => have := h i (by simp); omega
  | m + 1, is, hn, h => by
    have h1 := nodup_le m (is.erase m) (hn.sublist List.erase_sublist) fun i hi => by
      have h2 := (hn.mem_erase_iff).1 hi
      have := h i h2.2
      omega
    by_cases hm : m ∈ is
    · rw [List.length_erase_of_mem hm] at h1; omega
    · rw [List.erase_of_not_mem hm] at h1; omega
theorem flat_le (m : Nat) : ∀ (J : List (List Contact)), (∀ o ∈ J, o.length ≤ m) → J.flatten.length ≤ J.length * m
  | [], _ => by simp
  | o :: J, h => by
    have h1 := h o (by simp)
    have h2 := flat_le m J fun o ho => h o (by simp [ho])
    simp only [List.flatten_cons, List.length_append, List.length_cons, Nat.add_mul, Nat.one_mul]
    omega
theorem bad_union {L : List Contact} {G : List ((Int × Int) × List Contact)} (h : GP L G) (ha : L.Pairwise fun x y => x.Start ≤ y.Start) (hv : ValC L) {p : (Int × Int) × List Contact} (hp : p ∈ G) {out : List Contact} (hJ : JInv p.2 out) (hn : ¬ out.Pairwise apartC) :
    ∃ F, GoodF L F ∧ ¬ F.Pairwise apartC := by
  classical
  have hex : ∀ q : (Int × Int) × List Contact, ∃ o, q ∈ G → (JInv q.2 o ∧ (q.2 = p.2 → o = out)) := fun q => by
    by_cases hq : q ∈ G
    · by_cases e : q.2 = p.2
      · exact ⟨out, fun _ => ⟨e ▸ hJ, fun _ => rfl⟩⟩
      · obtain ⟨o, ho⟩ := join_ex' (h.pairL ha hv hq)
        exact ⟨o, fun _ => ⟨ho, fun h => absurd h e⟩⟩
    · exact ⟨[], fun h => absurd h hq⟩
  let f := fun q => Classical.choose (hex q)
  have hf : ∀ q ∈ G, JInv q.2 (f q) ∧ (q.2 = p.2 → f q = out) := fun q hq => Classical.choose_spec (hex q) hq
  obtain ⟨g1, g2⟩ := glue h (G.map f) (by simp) fun i q o hi ho => by
    rw [List.getElem?_map, hi] at ho
    simp at ho
    subst ho
    exact (hf q (List.mem_of_getElem? hi)).1.good
  refine ⟨_, g1, fun hap => hn ?_⟩
  have := g2.1 hap (f p) (List.mem_map.2 ⟨p, hp, rfl⟩)
  rw [(hf p hp).2 rfl] at this
  exact this
theorem all_union {L : List Contact} {G : List ((Int × Int) × List Contact)} (h : GP L G) {is : List Nat} (hnd : is.Nodup) (hlt : ∀ i ∈ is, i < G.length) (hall : ∀ i, i < G.length → i ∈ is) (J : List (List Contact)) (hlen : J.length = is.length)
    (hJ : ∀ (t i : Nat) out, is[t]? = some i → J[t]? = some out → ∃ k l, G[i]? = some (k, l) ∧ JInv l out ∧ out.Pairwise apartC) : GoodF L J.flatten ∧ J.flatten.Pairwise apartC := by
  let G' := is.map fun i => G.getD i default
  have hget : ∀ i p, G[i]? = some p → G.getD i default = p := fun i p hi => by rw [List.getD_eq_getElem?_getD, hi]; rfl
  have hG' : GP L G' := by
    refine ⟨?_, fun p hp => ?_, fun c hc => ?_⟩
    · rw [List.Nodup, List.map_map, List.pairwise_map]
      refine List.Pairwise.imp_of_mem ?_ hnd
      intro a b ha hb hne e
      have h1 := hlt a ha
      have h2 := hlt b hb
      simp only [Function.comp] at e
      rw [hget a _ (List.getElem?_eq_getElem h1), hget b _ (List.getElem?_eq_getElem h2)] at e
      have hn := h.nd
      rw [List.Nodup, List.pairwise_map, List.pairwise_iff_getElem] at hn
      rcases Nat.lt_trichotomy a b with q | q | q
      · exact hn a b h1 h2 q e
      · exact hne q
      · exact hn b a h2 h1 q e.symm
    · obtain ⟨i, hi, rfl⟩ := List.mem_map.1 hp
      have h1 := hlt i hi
      rw [hget i _ (List.getElem?_eq_getElem h1)]
      exact h.eq _ (List.getElem_mem h1)
    · obtain ⟨p, hp, e⟩ := h.all c hc
      obtain ⟨i, hi⟩ := List.mem_iff_getElem?.1 hp
      exact ⟨p, List.mem_map.2 ⟨i, hall i (List.getElem?_eq_some_iff.1 hi).1, hget i p hi⟩, e⟩
  have hA : ∀ out ∈ J, out.Pairwise apartC := fun out ho => by
    obtain ⟨t, ht⟩ := List.mem_iff_getElem?.1 ho
    have h1 := (List.getElem?_eq_some_iff.1 ht).1
    obtain ⟨k, l, _, _, q⟩ := hJ t is[t] out (List.getElem?_eq_getElem (by omega)) ht
    exact q
  obtain ⟨g1, g2⟩ := glue hG' J (by simp [G', hlen]) fun t p out ht ho => by
    have h1 := (List.getElem?_eq_some_iff.1 ho).1
    have h2 : is[t]? = some is[t] := List.getElem?_eq_getElem (by omega)
    obtain ⟨k, l, q1, q2, _⟩ := hJ t _ out h2 ho
    have : p = (k, l) := by
      simp only [G', List.getElem?_map, h2, Option.map_some, Option.some.injEq] at ht
      rw [← ht]; exact hget _ _ q1
    subst this
    exact q2.good
  exact ⟨g1, g2.2 hA⟩
theorem asc_start {L : List Contact} (h : L.Pairwise fun a b => ¬ cmpC b a < 0) : L.Pairwise fun x y => x.Start ≤ y.Start :=
  h.imp fun {a b} hab => by rw [cmpC_lt] at hab; omega
theorem SRF.of {F : List Contact} (hap : F.Pairwise apartC) (hok : ∀ c ∈ F, OKC c) (h : F.length ≤ 200) : SRF F (plan_compare.srt F, 0) :=
  .inr (.inr ⟨hap, h, srt_valid hok hap, (srt_spec F).1, rfl⟩)
end Go.Proofs.Ytjcbpfhlgebgdaa
