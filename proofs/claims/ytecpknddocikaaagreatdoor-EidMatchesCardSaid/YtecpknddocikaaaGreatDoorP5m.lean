import Derived.Test.YtecpknddocikaaaGreatDoorP5d
import Derived.Test.YtecpknddocikaaaGreatDoorXGMat
set_option linter.unusedSimpArgs false
set_option linter.unusedVariables false
namespace Go.Proofs.YtecpknddocikaaaGreatDoor
open Go.X Go.Eng
theorem awake_w : packhorselaw05_awake () = some true := rfl
open Classical in
noncomputable def patE (l : List EID) : Int := if 20 < l.length then 5 else if ∀ e ∈ l, OKE e then 0 else 2
theorem check_w (e : EID) : W (eid_Check e) fun x => (OKE e ∧ x = 0) ∨ (¬ OKE e ∧ x = 2) := by
 unfold eid_Check
 iterate 5 (refine W_brd (fun h => W_ret (.inr ⟨fun o => by obtain ⟨h1, h2, h3, h4, h5⟩ := o; omega, rfl⟩)) fun _ => ?_)
 exact W_ret (.inl ⟨⟨by omega, by omega, by omega, by omega, by omega⟩, rfl⟩)
theorem checkR_w (e : EID) : W (packhorseref05_Check e) fun x => (OKE e ∧ x = 0) ∨ (¬ OKE e ∧ x = 2) := by
 unfold packhorseref05_Check
 iterate 5 (refine W_brd (fun h => W_ret (.inr ⟨fun o => by obtain ⟨h1, h2, h3, h4, h5⟩ := o; omega, rfl⟩)) fun _ => ?_)
 exact W_ret (.inl ⟨⟨by omega, by omega, by omega, by omega, by omega⟩, rfl⟩)
theorem patE_eq {l : List EID} {o : Option Int} (h : W o fun x => x = patE l) : o = some (patE l) := W.eq h
theorem pattern_eq (l : List EID) : eid_pattern l = some (patE l) := by
 refine W.eq ?_
 unfold eid_pattern
 refine W_brd (fun h => W_ret (by unfold patE; rw [if_pos (by omega)])) fun hl => ?_
 refine W_loop (fun i => (0 ≤ i ∧ i ≤ (l.length : Int)) ∧ ∀ e ∈ l.take i.toNat, OKE e) (fun i => l.length - i.toNat) ?_ ⟨⟨by omega, by omega⟩, by simp⟩
 rintro i ⟨⟨i1, i2⟩, i3⟩
 refine W_if (fun h1 => ?_) (fun h1 => ?_)
 ·refine W_idx i1 h1 fun x hx => ?_
  refine W_call (check_w x) fun c hc => ?_
  refine W_brne (fun h => ?_) (fun h => ?_)
  ·refine W_done ?_
   rcases hc with ⟨_, q⟩ | ⟨hn, q⟩
   ·exact absurd q h
   ·refine W_ret ?_
    unfold patE
    rw [if_neg (by omega), if_neg (fun hh => hn (hh x (List.mem_of_getElem? hx)))]
    exact q
  ·refine W_op fun j hj => ?_
   refine W_next ⟨⟨⟨by omega, by omega⟩, ?_⟩, by omega⟩
   have : j.toNat = i.toNat + 1 := by omega
   rw [this, List.take_add_one, hx]
   intro e he
   simp only [Option.toList_some, List.mem_append, List.mem_singleton] at he
   rcases he with he | rfl
   ·exact i3 e he
   ·rcases hc with ⟨q, _⟩ | ⟨_, q⟩
    ·exact q
    ·omega
 ·refine W_done (W_ret ?_)
  have : i.toNat = l.length := by omega
  rw [this, List.take_length] at i3
  unfold patE
  rw [if_neg (by omega), if_pos i3]
theorem asks_eq (l : List EID) : packhorseref05_asks l = some (patE l) := by
 refine W.eq ?_
 unfold packhorseref05_asks
 refine W_brd (fun h => W_ret (by unfold patE; rw [if_pos (by omega)])) fun hl => ?_
 refine W_loop (fun i => (0 ≤ i ∧ i ≤ (l.length : Int)) ∧ ∀ e ∈ l.take i.toNat, OKE e) (fun i => l.length - i.toNat) ?_ ⟨⟨by omega, by omega⟩, by simp⟩
 rintro i ⟨⟨i1, i2⟩, i3⟩
 refine W_if (fun h1 => ?_) (fun h1 => ?_)
 ·refine W_idx i1 h1 fun x hx => ?_
  refine W_call (checkR_w x) fun c hc => ?_
  refine W_brne (fun h => ?_) (fun h => ?_)
  ·refine W_done ?_
   rcases hc with ⟨_, q⟩ | ⟨hn, q⟩
   ·exact absurd q h
   ·refine W_ret ?_
    unfold patE
    rw [if_neg (by omega), if_neg (fun hh => hn (hh x (List.mem_of_getElem? hx)))]
    exact q
  ·refine W_op fun j hj => ?_
   refine W_next ⟨⟨⟨by omega, by omega⟩, ?_⟩, by omega⟩
   have : j.toNat = i.toNat + 1 := by omega
   rw [this, List.take_add_one, hx]
   intro e he
   simp only [Option.toList_some, List.mem_append, List.mem_singleton] at he
   rcases he with he | rfl
   ·exact i3 e he
   ·rcases hc with ⟨q, _⟩ | ⟨_, q⟩
    ·exact q
    ·omega
 ·refine W_done (W_ret ?_)
  have : i.toNat = l.length := by omega
  rw [this, List.take_length] at i3
  unfold patE
  rw [if_neg (by omega), if_pos i3]
theorem patE_ok {l : List EID} (h : patE l = 0) : OKP l := by
 unfold patE at h
 split at h
 ·omega
 ·split at h
  ·rename_i h1 h2; exact ⟨by omega, h2⟩
  ·omega
theorem match_ref {l : List EID} (h : ∀ e ∈ l, OKE e) (hl : l.length ≤ 1000) (n s : Int) (hn : 0 ≤ n) (hs : 0 ≤ s) : packhorseref05_match (l, n, s) = some (hits l s n.toNat) := by
 refine W.eq ?_
 unfold packhorseref05_match
 dsimp only
 have hnn : ((n.toNat : Nat) : Int) = n := by omega
 have one : ∀ e : EID, OKE e → (((e.Service == s || e.Service == -1) && (decide (e.Low ≤ (n.toNat : Int)) && decide ((n.toNat : Int) ≤ e.High))) = true ↔ (e.Low ≤ n ∧ n ≤ e.High) ∧ (e.Service < 0 ∨ e.Service = s)) := by
  rintro e ⟨_, _, _, h1, _⟩
  simp only [Bool.and_eq_true, Bool.or_eq_true, beq_iff_eq, decide_eq_true_eq, hnn]
  omega
 refine W_loop (fun i => (0 ≤ i ∧ i ≤ (l.length : Int)) ∧ hits (l.take i.toNat) s n.toNat = false) (fun i => l.length - i.toNat) ?_ ⟨⟨by omega, by omega⟩, rfl⟩
 rintro i ⟨⟨i1, i2⟩, i3⟩
 refine W_if (fun h1 => ?_) (fun h1 => ?_)
 ·have hget : l[i.toNat]? = some (l[i.toNat]'(by omega)) := List.getElem?_eq_getElem _
  generalize l[i.toNat]'(by omega) = e at hget
  have he := List.mem_of_getElem? hget
  have ho := one e (h e he)
  have yes : (e.Low ≤ n ∧ n ≤ e.High) ∧ (e.Service < 0 ∨ e.Service = s) → hits l s n.toNat = true := fun q => by
   unfold hits
   rw [List.any_eq_true]
   exact ⟨e, he, ho.2 q⟩
  have no : ¬ ((e.Low ≤ n ∧ n ≤ e.High) ∧ (e.Service < 0 ∨ e.Service = s)) → ∀ j : Int, j = i + 1 → ((0 ≤ j ∧ j ≤ (l.length : Int)) ∧ hits (l.take j.toNat) s n.toNat = false) ∧ l.length - j.toNat < l.length - i.toNat := fun q j hj => by
   refine ⟨⟨⟨by omega, by omega⟩, ?_⟩, by omega⟩
   have : j.toNat = i.toNat + 1 := by omega
   rw [this, List.take_add_one, hget]
   unfold hits at i3 ⊢
   rw [List.any_append, i3]
   simp only [Option.toList_some, List.any_cons, List.any_nil, Bool.or_false, Bool.false_or]
   rw [Bool.eq_false_iff]
   exact fun hh => q (ho.1 hh)
  have st : ∀ {β : Type} {f : EID → Option β} {Q : β → Prop}, W (f e) Q → W ((idx l i).bind f) Q := fun hk => W_idx i1 h1 fun x hx => by
   rw [hget] at hx; cases hx; exact hk
  refine st ?_
  refine W_if (fun a1 => ?_) (fun a1 => ?_)
  ·refine st ?_
   refine W_if (fun a2 => ?_) (fun a2 => ?_)
   ·refine st ?_
    refine W_if (fun a3 => ?_) (fun a3 => ?_)
    ·exact W_done (W_ret (yes ⟨⟨a1, a2⟩, .inl a3⟩).symm)
    ·refine st ?_
     refine W_if (fun a4 => ?_) (fun a4 => ?_)
     ·exact W_done (W_ret (yes ⟨⟨a1, a2⟩, .inr a4⟩).symm)
     ·refine W_op fun j hj => ?_
      exact W_next (no (by omega) j hj)
   ·refine W_op fun j hj => ?_
    exact W_next (no (by omega) j hj)
  ·refine W_op fun j hj => ?_
   exact W_next (no (by omega) j hj)
 ·have : i.toNat = l.length := by omega
  rw [this, List.take_length] at i3
  exact W_done (W_ret i3.symm)
theorem every_ref {l : List EID} (h : ∀ e ∈ l, OKE e) (hl : l.length ≤ 1000) (n : Int) (hn : 0 ≤ n) : packhorseref05_every (l, n) = some (hits l (-1) n.toNat) := by
 refine W.eq ?_
 unfold packhorseref05_every
 dsimp only
 have hnn : ((n.toNat : Nat) : Int) = n := by omega
 have one : ∀ e : EID, OKE e → (((e.Service == -1 || e.Service == -1) && (decide (e.Low ≤ (n.toNat : Int)) && decide ((n.toNat : Int) ≤ e.High))) = true ↔ (e.Low ≤ n ∧ n ≤ e.High) ∧ e.Service < 0) := by
  rintro e ⟨_, _, _, h1, _⟩
  simp only [Bool.and_eq_true, Bool.or_eq_true, beq_iff_eq, decide_eq_true_eq, hnn]
  omega
 refine W_loop (fun i => (0 ≤ i ∧ i ≤ (l.length : Int)) ∧ hits (l.take i.toNat) (-1) n.toNat = false) (fun i => l.length - i.toNat) ?_ ⟨⟨by omega, by omega⟩, rfl⟩
 rintro i ⟨⟨i1, i2⟩, i3⟩
 refine W_if (fun h1 => ?_) (fun h1 => ?_)
 ·have hget : l[i.toNat]? = some (l[i.toNat]'(by omega)) := List.getElem?_eq_getElem _
  generalize l[i.toNat]'(by omega) = e at hget
  have he := List.mem_of_getElem? hget
  have ho := one e (h e he)
  have yes : (e.Low ≤ n ∧ n ≤ e.High) ∧ e.Service < 0 → hits l (-1) n.toNat = true := fun q => by
   unfold hits
   rw [List.any_eq_true]
   exact ⟨e, he, ho.2 q⟩
  have no : ¬ ((e.Low ≤ n ∧ n ≤ e.High) ∧ e.Service < 0) → ∀ j : Int, j = i + 1 → ((0 ≤ j ∧ j ≤ (l.length : Int)) ∧ hits (l.take j.toNat) (-1) n.toNat = false) ∧ l.length - j.toNat < l.length - i.toNat := fun q j hj => by
   refine ⟨⟨⟨by omega, by omega⟩, ?_⟩, by omega⟩
   have : j.toNat = i.toNat + 1 := by omega
   rw [this, List.take_add_one, hget]
   unfold hits at i3 ⊢
   rw [List.any_append, i3]
   simp only [Option.toList_some, List.any_cons, List.any_nil, Bool.or_false, Bool.false_or]
   rw [Bool.eq_false_iff]
   exact fun hh => q (ho.1 hh)
  have st : ∀ {β : Type} {f : EID → Option β} {Q : β → Prop}, W (f e) Q → W ((idx l i).bind f) Q := fun hk => W_idx i1 h1 fun x hx => by
   rw [hget] at hx; cases hx; exact hk
  refine st ?_
  refine W_if (fun a1 => ?_) (fun a1 => ?_)
  ·refine st ?_
   refine W_if (fun a2 => ?_) (fun a2 => ?_)
   ·refine st ?_
    refine W_if (fun a3 => ?_) (fun a3 => ?_)
    ·exact W_done (W_ret (yes ⟨⟨a2, a3⟩, a1⟩).symm)
    ·refine W_op fun j hj => ?_
     exact W_next (no (by omega) j hj)
   ·refine W_op fun j hj => ?_
    exact W_next (no (by omega) j hj)
  ·refine W_op fun j hj => ?_
   exact W_next (no (by omega) j hj)
 ·have : i.toNat = l.length := by omega
  rw [this, List.take_length] at i3
  exact W_done (W_ret i3.symm)
theorem rangesR_eq {f : Nat → Bool} (s : Int) (h0 : f 0 = false) : packhorseref05_ranges (tab f, s) = some (rgs f s 17) := by
 refine W.eq ?_
 unfold packhorseref05_ranges
 dsimp only
 refine W_loop (fun st => (1 ≤ st.2 ∧ st.2 ≤ 17) ∧ st.1 = rgs f s st.2.toNat) (fun st => 17 - st.2.toNat) ?_ ⟨⟨by dsimp only; omega, by dsimp only; omega⟩, by simp [rgs, h0]⟩
 rintro ⟨out, i⟩ ⟨⟨i1, i2⟩, hO⟩
 dsimp only at i1 i2 hO ⊢
 have hsp := rgs_spec f s i.toNat
 rw [← hO] at hsp
 have hl := hsp.len
 refine W_if (fun h1 => ?_) (fun h1 => ?_)
 ·refine W_idxT (by omega) (by omega) ?_
  refine W_br (fun hf => ?_) (fun hf => ?_)
  ·refine W_op fun j hj => ?_
   refine W_idxT (by omega) (by omega) ?_
   have hj1 : j.toNat = i.toNat - 1 := by omega
   refine W_br (fun hg => ?_) (fun hg => ?_)
   ·rw [hj1] at hg
    obtain ⟨hpos, hlast⟩ := hsp.last (by omega) hg
    refine W_op fun q hq => ?_
    refine W_brin (by omega) (by omega) ?_
    refine W_idx (by omega) (by omega) fun x hx => ?_
    refine W_op fun p hp => ?_
    refine W_next ⟨⟨⟨by dsimp only; omega, by dsimp only; omega⟩, ?_⟩, by dsimp only; omega⟩
    dsimp only
    have e1 : p.toNat = i.toNat + 1 := by omega
    have e2 : q.toNat = out.length - 1 := by omega
    rw [e1]
    have hpp : 0 < i.toNat ∧ f (i.toNat - 1) = true := ⟨by omega, hg⟩
    simp only [rgs, hf, if_true, ← hO, if_pos hpp, setI, e2]
    rw [e2] at hx
    congr 1
    have hs := hsp.srv x (List.mem_of_getElem? hx)
    rw [List.getD_eq_getElem?_getD, hx, hs]
    simp only [Option.getD_some]
    congr 1
    omega
   ·rw [hj1] at hg
    have hpp : ¬ (0 < i.toNat ∧ f (i.toNat - 1) = true) := fun h => by rw [hg] at h; cases h.2
    refine W_idxT (by omega) (by omega) ?_
    rw [hf]
    refine W_brT ?_
    refine W_appc (by simp; omega) fun o ho => ?_
    refine W_op fun p hp => ?_
    refine W_next ⟨⟨⟨by dsimp only; omega, by dsimp only; omega⟩, ?_⟩, by dsimp only; omega⟩
    dsimp only
    have e1 : p.toNat = i.toNat + 1 := by omega
    have e2 : i = (i.toNat : Int) := by omega
    rw [e1, ho]
    simp only [rgs, hf, if_true, ← hO, if_neg hpp]
    rw [← e2]
  ·refine W_idxT (by omega) (by omega) ?_
   rw [hf]
   refine W_brF ?_
   refine W_op fun p hp => ?_
   refine W_next ⟨⟨⟨by dsimp only; omega, by dsimp only; omega⟩, ?_⟩, by dsimp only; omega⟩
   dsimp only
   have e1 : p.toNat = i.toNat + 1 := by omega
   rw [e1]
   simp only [rgs, hf, ← hO]
   rfl
 ·refine W_done (W_ret ?_)
  have : i.toNat = 17 := by omega
  rw [hO, this]
theorem setI_tab (f : Nat → Bool) (i : Int) (b : Bool) (h0 : 0 ≤ i) (h1 : i < 17) : setI (tab f) i b = tab fun n => if n = i.toNat then b else f n := by
 unfold setI
 exact tab_set f _ _ (by omega)
theorem mk17 : mkL false 1 17 17 = some (tab fun _ => false) := by
 unfold mkL
 rw [if_pos ⟨by decide, by decide, by decide, by decide⟩]
 rfl
theorem canonR_eq {l : List EID} (h : OKP l) : packhorseref05_Canon l = some (if 20 < (canonL l).length then ([], 5) else (canonL l, 0)) := by
 have hlen := h.len
 refine W.eq ?_
 unfold packhorseref05_Canon
 have hp : patE l = 0 := by unfold patE; rw [if_neg (by omega), if_pos h.ok]
 refine W_eq (asks_eq l) ?_
 rw [hp]
 refine W_brne (fun h => absurd rfl h) fun _ => ?_
 refine W_eq mk17 ?_
 refine W_loop (fun st => (1 ≤ st.2 ∧ st.2 ≤ 17) ∧ st.1 = tab fun n => if 1 ≤ n ∧ (n : Int) < st.2 then hits l (-1) n else false) (fun st => 17 - st.2.toNat) ?_ ⟨⟨by dsimp only; omega, by dsimp only; omega⟩, ?_⟩
 rotate_left
 ·dsimp only
  refine tab_congr fun n hn => ?_
  rw [if_neg (by omega)]
 rintro ⟨M, n⟩ ⟨⟨n1, n2⟩, hM⟩
 dsimp only at n1 n2 hM ⊢
 refine W_if (fun h1 => ?_) (fun h1 => ?_)
 ·refine W_eq (every_ref h.ok (by omega) n (by omega)) ?_
  rw [hM]
  refine W_brin (by omega) (by rw [tab_len]; omega) ?_
  refine W_idxT (by omega) (by omega) ?_
  refine W_op fun j hj => ?_
  rw [setI_tab _ _ _ (by omega) (by omega)]
  refine W_next ⟨⟨⟨by dsimp only; omega, by dsimp only; omega⟩, ?_⟩, by dsimp only; omega⟩
  dsimp only
  refine tab_congr fun m hm => ?_
  by_cases e : m = n.toNat
  ·rw [if_pos e, if_pos (by omega), e]
  ·rw [if_neg e]
   by_cases q : 1 ≤ m ∧ (m : Int) < n
   ·rw [if_pos q, if_pos (by omega)]
   ·rw [if_neg q, if_neg (by omega)]
 have hM' : M = tab (gset l (-1)) := by
  rw [hM]
  refine tab_congr fun m hm => ?_
  have eg : gset l (-1) m = hits l (-1) m := by unfold gset; simp
  rw [eg]
  by_cases q : m = 0
  ·rw [if_neg (by omega), q, hits0 h.ok]
  ·rw [if_pos (by omega)]
 refine W_done ?_
 dsimp only
 rw [hM']
 refine W_eq (rangesR_eq (-1) (gset0 h.ok (-1))) ?_
 let R := fun s : Int => rgs (gset l s) s 17
 have hR : ∀ s, (R s).length ≤ 17 := fun s => (rgs_spec (gset l s) s 17).len
 refine W_loop (fun st => (0 ≤ st.2.2 ∧ st.2.2 ≤ 1000) ∧ st.1 = tab (gset l (-1)) ∧ st.2.1 = (allS.take (st.2.2.toNat + 1)).flatMap R ∧ (st.2.1.length : Int) ≤ 17 * (st.2.2 + 1)) (fun st => 1000 - st.2.2.toNat) ?_ ⟨⟨by dsimp only; omega, by dsimp only; omega⟩, rfl, ?_, ?_⟩
 rotate_left
 ·show rgs (gset l (-1)) (-1) 17 = (allS.take 1).flatMap R
  have : allS.take 1 = [-1] := by
   unfold allS
   rw [← List.map_take, List.take_range]
   rfl
  rw [this]
  simp [R]
 ·have := hR (-1)
  dsimp only
  show ((R (-1)).length : Int) ≤ _
  omega
 rintro ⟨A, out, s⟩ ⟨⟨s1, s2⟩, hA, hO, hL⟩
 dsimp only at s1 s2 hA hO hL ⊢
 refine W_if (fun h2 => ?_) (fun h2 => ?_)
 ·refine W_eq mk17 ?_
  refine W_loop (fun st => (1 ≤ st.2.2.2 ∧ st.2.2.2 ≤ 17) ∧ st.1 = tab (gset l (-1)) ∧ st.2.1 = out ∧ st.2.2.1 = tab fun n => if 1 ≤ n ∧ (n : Int) < st.2.2.2 then gset l s n else false) (fun st => 17 - st.2.2.2.toNat) ?_ ⟨⟨by dsimp only; omega, by dsimp only; omega⟩, hA, rfl, ?_⟩
  rotate_left
  ·dsimp only
   refine tab_congr fun n hn => ?_
   rw [if_neg (by omega)]
  rintro ⟨A', out', M', n'⟩ ⟨⟨n1', n2'⟩, hA2, hO2, hM2⟩
  dsimp only at n1' n2' hA2 hO2 hM2 ⊢
  have hg1 : ∀ m, gset l (-1) m = hits l (-1) m := fun m => by unfold gset; simp
  have hgs : ∀ m, gset l s m = (hits l s m && !hits l (-1) m) := fun m => by
   unfold gset
   have : (s == -1) = false := by
    have : ¬ s = -1 := by omega
    simpa using this
   rw [this, Bool.false_or]
  have fin : ∀ (b : Bool) (j : Int), j = n' + 1 → b = gset l s n'.toNat → setI M' n' b = tab fun m => if 1 ≤ m ∧ (m : Int) < j then gset l s m else false := by
   intro b j hj hb
   rw [hM2]
   by_cases hlt : n' < 17
   ·rw [setI_tab _ _ _ (by omega) hlt]
    refine tab_congr fun m hm => ?_
    by_cases e : m = n'.toNat
    ·rw [if_pos e, if_pos (by omega), hb, e]
    ·rw [if_neg e]
     by_cases q : 1 ≤ m ∧ (m : Int) < n'
     ·rw [if_pos q, if_pos (by omega)]
     ·rw [if_neg q, if_neg (by omega)]
   ·unfold setI
    have e17 : n' = 17 := by omega
    rw [List.set_eq_of_length_le (by rw [tab_len]; omega)]
    refine tab_congr fun m hm => ?_
    by_cases q : 1 ≤ m ∧ (m : Int) < n'
    ·rw [if_pos q, if_pos (by omega)]
    ·rw [if_neg q, if_neg (by omega)]
  refine W_if (fun h3 => ?_) (fun h3 => ?_)
  ·rw [hA2]
   refine W_idxT (by omega) (by omega) ?_
   refine W_brnot ?_
   refine W_br (fun hb => ?_) (fun hb => ?_)
   ·refine W_brin (by omega) (by rw [hM2, tab_len]; omega) ?_
    refine W_idx (by omega) (by rw [hM2, tab_len]; omega) fun _ _ => ?_
    refine W_op fun j hj => ?_
    refine W_next ⟨⟨⟨by dsimp only; omega, by dsimp only; omega⟩, rfl, hO2, ?_⟩, by dsimp only; omega⟩
    refine fin false j hj ?_
    rw [hg1] at hb
    rw [hgs, hb]; simp
   ·refine W_eq (match_ref h.ok (by omega) n' s (by omega) s1) ?_
    refine W_brin (by omega) (by rw [hM2, tab_len]; omega) ?_
    refine W_idx (by omega) (by rw [hM2, tab_len]; omega) fun _ _ => ?_
    refine W_op fun j hj => ?_
    refine W_next ⟨⟨⟨by dsimp only; omega, by dsimp only; omega⟩, rfl, hO2, ?_⟩, by dsimp only; omega⟩
    refine fin _ j hj ?_
    rw [hg1] at hb
    rw [hgs, hb]; simp
  ·refine W_done ?_
   dsimp only
   have e : M' = tab (gset l s) := by
    rw [hM2]
    refine tab_congr fun m hm => ?_
    by_cases q : m = 0
    ·rw [if_neg (by omega), q, gset0 h.ok]
    ·rw [if_pos (by omega)]
   rw [e]
   refine W_eq (rangesR_eq s (gset0 h.ok s)) ?_
   have hrl := hR s
   refine W_appc (by rw [hO2]; show (out.length + (R s).length) * 24 ≤ _; omega) fun o ho => ?_
   refine W_op fun j hj => ?_
   refine W_next ⟨⟨⟨by dsimp only; omega, by dsimp only; omega⟩, hA2, ?_, ?_⟩, by dsimp only; omega⟩
   ·dsimp only
    have e1 : j.toNat + 1 = (s.toNat + 1) + 1 := by omega
    have e2 : allS[s.toNat + 1]? = some s := by
     unfold allS
     rw [List.getElem?_map, List.getElem?_range (by omega)]
     simp only [Option.map_some, Option.some.injEq]
     omega
    have e3 : allS.take (s.toNat + 1 + 1) = allS.take (s.toNat + 1) ++ [s] := by rw [List.take_add_one, e2]; rfl
    rw [ho, hO2, hO, e1, e3]
    simp [R]
   ·dsimp only
    rw [ho, List.length_append, hO2]
    have : (rgs (gset l s) s 17).length ≤ 17 := hrl
    omega
 ·have e : s.toNat + 1 = 1001 := by omega
  have e2 : (allS.take (s.toNat + 1)).flatMap R = canonL l := by
   rw [e, List.take_of_length_le (by unfold allS; simp)]
   rfl
  refine W_done ?_
  dsimp only
  rw [hO, e2]
  refine W_brd (fun q => ?_) (fun q => ?_)
  ·rw [if_pos (by omega)]; exact W_ret rfl
  ·rw [if_neg (by omega)]; exact W_ret rfl
theorem W_cat {β : Type} {s t : List UInt8} {f : List UInt8 → Option β} {Q : β → Prop} (h : s.length + t.length ≤ 100000) (k : ∀ c, c = s ++ t → W (f c) Q) : W ((catS s t).bind f) Q := by
 unfold catS
 rw [if_pos (Nat.le_trans h (by decide))]
 exact k _ rfl
def dec (n : Int) : List UInt8 := Go.Lib.decDigits n.toNat
theorem dec_len : ∀ (k : Nat) (n : Int), 0 ≤ n → n < 10 ^ (k + 1) → (dec n).length ≤ k + 1
 | 0, n, h0, h1 => by
  unfold dec
  rw [Go.Lib.decDigits, dif_pos (by omega)]
  simp
 | k + 1, n, h0, h1 => by
  unfold dec
  by_cases h : n.toNat < 10
  ·rw [Go.Lib.decDigits, dif_pos h]; simp
  ·rw [Go.Lib.decDigits, dif_neg h]
   have e : n.toNat / 10 = (n / 10).toNat := by omega
   have := dec_len k (n / 10) (by omega) (by rw [Int.pow_succ] at h1; omega)
   unfold dec at this
   rw [e, List.length_append]
   simp; omega
theorem itoa_w {n : Int} (h0 : 0 ≤ n) (h1 : n ≤ 999) : strconv_Itoa n = some (dec n) := by
 unfold strconv_Itoa itoaX
 rw [if_pos ⟨by omega, by omega⟩]
 unfold Go.Lib.itoa dec
 rw [if_neg (by omega)]
theorem digit_slc {n : Int} (h0 : 0 ≤ n) (h1 : n < 10) : slc ([48, 49, 50, 51, 52, 53, 54, 55, 56, 57] : List UInt8) n (n + 1) = some [UInt8.ofNat (48 + n.toNat)] := by
 rcases (by omega : n = 0 ∨ n = 1 ∨ n = 2 ∨ n = 3 ∨ n = 4 ∨ n = 5 ∨ n = 6 ∨ n = 7 ∨ n = 8 ∨ n = 9) with rfl | rfl | rfl | rfl | rfl | rfl | rfl | rfl | rfl | rfl <;> rfl
theorem digits_n : ∀ (k : Nat) (n : Int), k ≤ 1000 → 0 ≤ n → n ≤ 1000000 → n < 10 ^ (k + 1) → packhorseref05_digits_n (k + 1) n = some (dec n)
 | k, n, hk, h0, hb, h1 => by
  refine W.eq ?_
  show W (packhorseref05_digits_f (packhorseref05_digits_n k) n) _
  unfold packhorseref05_digits_f
  refine W_if (fun h => ?_) (fun h => ?_)
  ·refine W_op fun j hj => ?_
   subst hj
   refine W_eq (digit_slc h0 h) ?_
   refine W_ret ?_
   unfold dec
   rw [Go.Lib.decDigits, dif_pos (by omega)]
  ·have hk0 : ∃ k', k = k' + 1 := by
    cases k with
    | zero => simp at h1; omega
    | succ k' => exact ⟨k', rfl⟩
   obtain ⟨k', rfl⟩ := hk0
   refine W_op fun q hq => ?_
   have hq1 : q < 10 ^ (k' + 1) := by rw [Int.pow_succ] at h1; omega
   refine W_eq (digits_n k' q (by omega) (by omega) (by omega) hq1) ?_
   refine W_op fun r hr => ?_
   refine W_op fun r2 hr2 => ?_
   refine W_op fun r3 hr3 => ?_
   have e : r3 = r + 1 := by omega
   subst e
   refine W_eq (digit_slc (by omega) (by omega)) ?_
   have hl := dec_len k' q (by omega) hq1
   refine W_cat (by simp; omega) fun c hc => ?_
   refine W_ret ?_
   rw [hc]
   unfold dec
   have e1 : n.toNat / 10 = q.toNat := by omega
   have e2 : n.toNat % 10 = r.toNat := by omega
   conv => rhs; rw [Go.Lib.decDigits, dif_neg (by omega)]
   rw [e1, e2]
theorem digits_w {n : Int} (h0 : 0 ≤ n) (h1 : n ≤ 999) : packhorseref05_digits n = some (dec n) := by
 have key : ∀ (k j : Nat) (r : List UInt8), packhorseref05_digits_n k n = some r → packhorseref05_digits_n (k + j) n = some r := by
  intro k
  have gen : ∀ (k : Nat) (n : Int) (r : List UInt8), packhorseref05_digits_n k n = some r → packhorseref05_digits_n (k + 1) n = some r := by
   intro k
   induction k with
   | zero => intro n r h; cases h
   | succ k ih =>
    intro n r h
    show packhorseref05_digits_f (packhorseref05_digits_n (k + 1)) n = some r
    have h' : packhorseref05_digits_f (packhorseref05_digits_n k) n = some r := h
    unfold packhorseref05_digits_f at h' ⊢
    rcases brS h' with ⟨hb, h'⟩ | ⟨hb, h'⟩
    ·rw [hb]; exact h'
    ·rw [hb]
     obtain ⟨q, e1, h'⟩ := bind_some h'
     obtain ⟨t, e2, h'⟩ := bind_some h'
     show (quoI .i64 n 10).bind _ = _
     rw [e1]
     simp only [Option.bind_some]
     rw [ih q t e2]
     exact h'
  intro j
  induction j with
  | zero => intro r h; exact h
  | succ j ihj => intro r h; exact gen _ _ _ (ihj r h)
 exact key 3 97 _ (digits_n 2 n (by omega) h0 (by omega) (by omega))
def txt (e : EID) : List UInt8 :=
 ([110] ++ (if e.Low = 1 ∧ e.High = 16 then [42] else if e.Low = e.High then dec e.Low else dec e.Low ++ [45] ++ dec e.High)) ++ (if e.Service = 0 then [] else if e.Service = -1 then [46, 42] else [46] ++ dec e.Service)
theorem dec3 {n : Int} (h0 : 0 ≤ n) (h1 : n ≤ 999) : (dec n).length ≤ 3 := dec_len 2 n h0 (by omega)
theorem txt_len {e : EID} (h : OKE e) : (txt e).length ≤ 12 := by
 obtain ⟨h1, h2, h3, h4, h5⟩ := h
 have a := dec3 (n := e.Low) (by omega) (by omega)
 have b := dec3 (n := e.High) (by omega) (by omega)
 unfold txt
 by_cases q : e.Service = -1
 ·have q0 : ¬ e.Service = 0 := by omega
  rw [if_neg q0, if_pos q]
  split
  ·simp
  ·split <;> simp <;> omega
 ·have c := dec3 (n := if e.Service < 0 then 0 else e.Service) (by split <;> omega) (by split <;> omega)
  rw [if_neg (by omega)] at c
  by_cases q0 : e.Service = 0
  ·rw [if_pos q0]
   split
   ·simp
   ·split <;> simp <;> omega
  ·rw [if_neg q0, if_neg q]
   split
   ·simp; omega
   ·split <;> simp <;> omega
theorem text_w {e : EID} (h : OKE e) : eid_Text e = some (txt e, 0) := by
 have hck := check_ok h
 obtain ⟨h1, h2, h3, h4, h5⟩ := h
 have a := dec3 (n := e.Low) (by omega) (by omega)
 have b := dec3 (n := e.High) (by omega) (by omega)
 refine W.eq ?_
 unfold eid_Text
 refine W_eq hck ?_
 refine W_brne (fun h => absurd rfl h) fun _ => ?_
 have svc : ∀ (x : List UInt8), x.length ≤ 20 → x = [110] ++ (if e.Low = 1 ∧ e.High = 16 then [42] else if e.Low = e.High then dec e.Low else dec e.Low ++ [45] ++ dec e.High) →
   W (br (e.Service == 0) (some (x, (0 : Int))) (br (e.Service == -1) ((catS x [46, 42]).bind fun y => some (y, (0 : Int))) ((strconv_Itoa e.Service).bind fun y => (catS [46] y).bind fun z => (catS x z).bind fun u => some (u, (0 : Int))))) fun r => r = (txt e, 0) := by
  intro x hx hxe
  refine W_if (fun q0 => ?_) (fun q0 => ?_)
  ·refine W_ret ?_
   unfold txt
   rw [if_pos q0, ← hxe, List.append_nil]
  ·refine W_if (fun q1 => ?_) (fun q1 => ?_)
   ·refine W_cat (by simp; omega) fun c hc => ?_
    refine W_ret ?_
    unfold txt
    rw [if_neg q0, if_pos q1, ← hxe, hc]
   ·refine W_eq (itoa_w (by omega) (by omega)) ?_
    have ds := dec3 (n := e.Service) (by omega) (by omega)
    refine W_cat (by simp; omega) fun c hc => ?_
    refine W_cat (by rw [hc]; simp; omega) fun d hd => ?_
    refine W_ret ?_
    unfold txt
    rw [if_neg q0, if_neg q1, ← hxe, hd, hc]
 have mid : W (br (e.Low == e.High)
     ((strconv_Itoa e.Low).bind fun x_8 =>
     (catS ([110] : List UInt8) x_8).bind fun x_9 =>
     br (e.Service == 0) (some (x_9, (0 : Int))) (br (e.Service == -1) ((catS x_9 [46, 42]).bind fun y => some (y, (0 : Int))) ((strconv_Itoa e.Service).bind fun y => (catS [46] y).bind fun z => (catS x_9 z).bind fun u => some (u, (0 : Int)))))
     ((strconv_Itoa e.Low).bind fun x_14 =>
     (catS x_14 ([45] : List UInt8)).bind fun x_15 =>
     (strconv_Itoa e.High).bind fun x_16 =>
     (catS x_15 x_16).bind fun x_17 =>
     (catS ([110] : List UInt8) x_17).bind fun x_18 =>
     br (e.Service == 0) (some (x_18, (0 : Int))) (br (e.Service == -1) ((catS x_18 [46, 42]).bind fun y => some (y, (0 : Int))) ((strconv_Itoa e.Service).bind fun y => (catS [46] y).bind fun z => (catS x_18 z).bind fun u => some (u, (0 : Int)))))) (fun r => r = (txt e, 0)) ∨ (e.Low = 1 ∧ e.High = 16) := by
  by_cases hall : e.Low = 1 ∧ e.High = 16
  ·exact .inr hall
  refine .inl ?_
  refine W_if (fun q => ?_) (fun q => ?_)
  ·refine W_eq (itoa_w (by omega) (by omega)) ?_
   refine W_cat (by simp; omega) fun c hc => ?_
   refine svc c (by rw [hc]; simp; omega) ?_
   rw [if_neg hall, if_pos q, hc]
  ·refine W_eq (itoa_w (by omega) (by omega)) ?_
   refine W_cat (by simp; omega) fun c hc => ?_
   refine W_eq (itoa_w (by omega) (by omega)) ?_
   refine W_cat (by rw [hc]; simp; omega) fun d hd => ?_
   refine W_cat (by rw [hd, hc]; simp; omega) fun f hf => ?_
   refine svc f (by rw [hf, hd, hc]; simp; omega) ?_
   rw [if_neg hall, if_neg q, hf, hd, hc]
 refine W_if (fun q1 => ?_) (fun q1 => ?_)
 ·refine W_if (fun q2 => ?_) (fun q2 => ?_)
  ·refine W_cat (by simp) fun c hc => ?_
   refine svc c (by rw [hc]; simp) ?_
   rw [if_pos ⟨q1, q2⟩, hc]
  ·exact mid.resolve_right fun h => q2 h.2
 ·exact mid.resolve_right fun h => q1 h.1
theorem checkR_ok {e : EID} (h : OKE e) : packhorseref05_Check e = some 0 := by
 obtain ⟨x, hx, q⟩ := checkR_w e
 rcases q with ⟨_, q⟩ | ⟨q, _⟩
 ·rw [hx, q]
 ·exact absurd h q
theorem textR_w {e : EID} (h : OKE e) : packhorseref05_Text e = some (txt e, 0) := by
 have hck := checkR_ok h
 obtain ⟨h1, h2, h3, h4, h5⟩ := h
 have a := dec3 (n := e.Low) (by omega) (by omega)
 have b := dec3 (n := e.High) (by omega) (by omega)
 refine W.eq ?_
 unfold packhorseref05_Text
 refine W_eq hck ?_
 refine W_brne (fun h => absurd rfl h) fun _ => ?_
 refine W_eq (digits_w (by omega) (by omega)) ?_
 refine W_cat (by simp; omega) fun x4 hx4 => ?_
 have svc : ∀ (x : List UInt8), x.length ≤ 20 → x = [110] ++ (if e.Low = 1 ∧ e.High = 16 then [42] else if e.Low = e.High then dec e.Low else dec e.Low ++ [45] ++ dec e.High) →
   W (br (decide (e.Service < 0)) ((catS x [46, 42]).bind fun y => some (y, (0 : Int))) (br (decide (0 < e.Service)) ((catS x [46]).bind fun y => (packhorseref05_digits e.Service).bind fun z => (catS y z).bind fun u => some (u, (0 : Int))) (some (x, (0 : Int))))) fun r => r = (txt e, 0) := by
  intro x hx hxe
  refine W_if (fun q0 => ?_) (fun q0 => ?_)
  ·refine W_cat (by simp; omega) fun c hc => ?_
   refine W_ret ?_
   unfold txt
   have e0 : ¬ e.Service = 0 := by omega
   have e1 : e.Service = -1 := by omega
   rw [if_neg e0, if_pos e1, ← hxe, hc]
  ·refine W_if (fun q1 => ?_) (fun q1 => ?_)
   ·refine W_cat (by simp; omega) fun c hc => ?_
    refine W_eq (digits_w (by omega) (by omega)) ?_
    have ds := dec3 (n := e.Service) (by omega) (by omega)
    refine W_cat (by rw [hc]; simp; omega) fun d hd => ?_
    refine W_ret ?_
    unfold txt
    have e0 : ¬ e.Service = 0 := by omega
    have e1 : ¬ e.Service = -1 := by omega
    rw [if_neg e0, if_neg e1, ← hxe, hd, hc]
    simp
   ·refine W_ret ?_
    unfold txt
    have e0 : e.Service = 0 := by omega
    rw [if_pos e0, ← hxe, List.append_nil]
 have mid : W (br (decide (e.Low < e.High))
     ((catS x4 ([45] : List UInt8)).bind fun x_9 =>
     (packhorseref05_digits e.High).bind fun x_10 =>
     (catS x_9 x_10).bind fun x_11 =>
     br (decide (e.Service < 0)) ((catS x_11 [46, 42]).bind fun y => some (y, (0 : Int))) (br (decide (0 < e.Service)) ((catS x_11 [46]).bind fun y => (packhorseref05_digits e.Service).bind fun z => (catS y z).bind fun u => some (u, (0 : Int))) (some (x_11, (0 : Int)))))
     (br (decide (e.Service < 0)) ((catS x4 [46, 42]).bind fun y => some (y, (0 : Int))) (br (decide (0 < e.Service)) ((catS x4 [46]).bind fun y => (packhorseref05_digits e.Service).bind fun z => (catS y z).bind fun u => some (u, (0 : Int))) (some (x4, (0 : Int)))))) (fun r => r = (txt e, 0)) ∨ (e.Low = 1 ∧ e.High = 16) := by
  by_cases hall : e.Low = 1 ∧ e.High = 16
  ·exact .inr hall
  refine .inl ?_
  refine W_if (fun q => ?_) (fun q => ?_)
  ·refine W_cat (by rw [hx4]; simp; omega) fun c hc => ?_
   refine W_eq (digits_w (by omega) (by omega)) ?_
   refine W_cat (by rw [hc, hx4]; simp; omega) fun d hd => ?_
   refine svc d (by rw [hd, hc, hx4]; simp; omega) ?_
   rw [if_neg hall, if_neg (by omega), hd, hc, hx4]
   simp
  ·refine svc x4 (by rw [hx4]; simp; omega) ?_
   rw [if_neg hall, if_pos (by omega), hx4]
 refine W_if (fun q1 => ?_) (fun q1 => ?_)
 ·refine W_if (fun q2 => ?_) (fun q2 => ?_)
  ·have hstar : ([110, 42] : List UInt8) = [110] ++ (if e.Low = 1 ∧ e.High = 16 then [42] else if e.Low = e.High then dec e.Low else dec e.Low ++ [45] ++ dec e.High) := by
    rw [if_pos ⟨q1, q2⟩]; rfl
   exact svc [110, 42] (by simp) hstar
  ·exact mid.resolve_right fun h => q2 h.2
 ·exact mid.resolve_right fun h => q1 h.1
def jn (l : List EID) : List UInt8 := Go.Lib.join (l.map txt) [44]
theorem jn_snoc (l : List EID) (e : EID) : jn (l ++ [e]) = if l = [] then txt e else jn l ++ [44] ++ txt e := by
 unfold jn
 cases l with
 | nil => rw [if_pos rfl]; exact Go.Lib.join_one _ _
 | cons x r =>
  rw [if_neg (by simp), List.cons_append, List.map_cons, List.map_cons, Go.Lib.join_cons, Go.Lib.join_cons]
  unfold Go.Lib.joinTail
  simp
theorem jn_len : ∀ {l : List EID}, (∀ e ∈ l, OKE e) → (jn l).length ≤ 13 * l.length := by
 intro l h
 unfold jn
 cases l with
 | nil => simp [Go.Lib.join]
 | cons x r =>
  rw [List.map_cons, Go.Lib.join_cons, List.length_append]
  have h1 := txt_len (h x (by simp))
  have h2 : ∀ {r : List EID}, (∀ e ∈ r, OKE e) → (Go.Lib.joinTail [44] (r.map txt)).length ≤ 13 * r.length := by
   intro r
   induction r with
   | nil => intro _; simp [Go.Lib.joinTail]
   | cons y r ih =>
    intro h
    have a := ih fun e he => h e (by simp [he])
    have b := txt_len (h y (by simp))
    unfold Go.Lib.joinTail at a ⊢
    simp only [List.map_cons, List.flatten_cons, List.length_append, List.length_cons, List.length_nil] at a ⊢
    omega
  have h3 := h2 (r := r) fun e he => h e (by simp [he])
  simp only [List.length_cons]
  omega
theorem joinP_w {l : List EID} (h : OKP l) : eid_Join l = some (jn l, 0) := by
 have hlen := h.len
 refine W.eq ?_
 unfold eid_Join
 refine W_eq (pattern_ok h) ?_
 refine W_brne (fun h => absurd rfl h) fun _ => ?_
 have hmk : mkL ([] : List UInt8) 16 (l.length : Int) (l.length : Int) = some (List.replicate l.length []) := by
  unfold mkL
  rw [if_pos ⟨by omega, by omega, by omega, by have : (maxLen : Int) = maxLen := rfl; exact Int.le_trans (by omega : (l.length : Int) ≤ 1000) (by decide)⟩]
  simp
 refine W_eq hmk ?_
 refine W_loop (fun st => (0 ≤ st.2 ∧ st.2 ≤ (l.length : Int)) ∧ st.1 = (l.take st.2.toNat).map txt ++ List.replicate (l.length - st.2.toNat) []) (fun st => l.length - st.2.toNat) ?_ ⟨⟨by dsimp only; omega, by dsimp only; omega⟩, by simp⟩
 rintro ⟨t, i⟩ ⟨⟨i1, i2⟩, ht⟩
 dsimp only at i1 i2 ht ⊢
 have htl : t.length = l.length := by rw [ht]; simp; omega
 refine W_if (fun h1 => ?_) (fun h1 => ?_)
 ·refine W_idx i1 h1 fun e he => ?_
  refine W_eq (text_w (h.ok e (List.mem_of_getElem? he))) ?_
  dsimp only
  refine W_brin i1 (by omega) ?_
  refine W_idx i1 (by omega) fun _ _ => ?_
  refine W_op fun j hj => ?_
  refine W_next ⟨⟨⟨by dsimp only; omega, by dsimp only; omega⟩, ?_⟩, by dsimp only; omega⟩
  dsimp only
  have e1 : j.toNat = i.toNat + 1 := by omega
  have e2 : l.length - i.toNat = (l.length - (i.toNat + 1)) + 1 := by omega
  unfold setI
  rw [ht, e1, e2, List.replicate_succ, List.take_add_one, he, List.map_append, List.set_append_right _ _ (by simp; omega)]
  have e3 : i.toNat - ((l.take i.toNat).map txt).length = 0 := by simp; omega
  rw [e3]
  simp
 ·have e1 : i.toNat = l.length := by omega
  rw [e1, List.take_length, Nat.sub_self, List.replicate_zero, List.append_nil] at ht
  refine W_done ?_
  dsimp only
  have hj : strings_Join (t, [44]) = some (jn l) := by
   unfold strings_Join joinX
   have := jn_len h.ok
   unfold jn at this ⊢
   dsimp only
   rw [ht, if_pos ⟨by simp; omega, by omega⟩]
  refine W_eq hj ?_
  exact W_ret rfl
theorem joinR_w {l : List EID} (h : OKP l) : packhorseref05_Join l = some (jn l, 0) := by
 have hlen := h.len
 have hp : patE l = 0 := by unfold patE; rw [if_neg (by omega), if_pos h.ok]
 refine W.eq ?_
 unfold packhorseref05_Join
 refine W_eq (asks_eq l) ?_
 rw [hp]
 refine W_brne (fun h => absurd rfl h) fun _ => ?_
 refine W_loop (fun st => (0 ≤ st.2 ∧ st.2 ≤ (l.length : Int)) ∧ st.1 = jn (l.take st.2.toNat)) (fun st => l.length - st.2.toNat) ?_ ⟨⟨by dsimp only; omega, by dsimp only; omega⟩, rfl⟩
 rintro ⟨o, i⟩ ⟨⟨i1, i2⟩, ho⟩
 dsimp only at i1 i2 ho ⊢
 have hol : o.length ≤ 13 * 20 := by
  have := jn_len (l := l.take i.toNat) fun e he => h.ok e (List.mem_of_mem_take he)
  rw [ho]
  simp at this
  omega
 refine W_if (fun h1 => ?_) (fun h1 => ?_)
 ·refine W_idx i1 h1 fun e he => ?_
  have hoe := h.ok e (List.mem_of_getElem? he)
  have htl := txt_len hoe
  refine W_eq (textR_w hoe) ?_
  dsimp only
  have hs : ∀ j : Int, j = i + 1 → jn (l.take j.toNat) = if i = 0 then txt e else o ++ [44] ++ txt e := by
   intro j hj
   have e1 : j.toNat = i.toNat + 1 := by omega
   rw [e1, List.take_add_one, he]
   simp only [Option.toList_some]
   rw [jn_snoc, ← ho]
   by_cases q : i = 0
   ·have q' : l.take i.toNat = [] := by rw [q]; rfl
    rw [if_pos q, if_pos q']
   ·have q' : ¬ l.take i.toNat = [] := fun hh => by
     have h3 : (l.take i.toNat).length = 0 := by rw [hh]; rfl
     rw [List.length_take] at h3
     omega
    rw [if_neg q, if_neg q']
  refine W_if (fun q => ?_) (fun q => ?_)
  ·refine W_cat (by simp; omega) fun c hc => ?_
   refine W_cat (by rw [hc]; simp; omega) fun d hd => ?_
   refine W_op fun j hj => ?_
   refine W_next ⟨⟨⟨by dsimp only; omega, by dsimp only; omega⟩, ?_⟩, by dsimp only; omega⟩
   dsimp only
   rw [hs j hj, if_neg (by omega), hd, hc]
  ·refine W_cat (by omega) fun c hc => ?_
   refine W_op fun j hj => ?_
   refine W_next ⟨⟨⟨by dsimp only; omega, by dsimp only; omega⟩, ?_⟩, by dsimp only; omega⟩
   dsimp only
   have hi0 : i = 0 := by omega
   have ho0 : o = [] := by rw [ho, hi0]; rfl
   rw [hs j hj, if_pos hi0, hc, ho0, List.nil_append]
 ·have e1 : i.toNat = l.length := by omega
  rw [e1, List.take_length] at ho
  refine W_done (W_ret ?_)
  rw [ho]
theorem nodesR_w {l : List EID} (h : OKP l) {s : Int} (h0 : 0 ≤ s) (h1 : s ≤ 999) : packhorseref05_Nodes (l, s) = some (nodesL l s, 0) := by
 have hlen := h.len
 have hp : patE l = 0 := by unfold patE; rw [if_neg (by omega), if_pos h.ok]
 refine W.eq ?_
 unfold packhorseref05_Nodes
 dsimp only
 refine W_eq (asks_eq l) ?_
 rw [hp]
 refine W_brne (fun h => absurd rfl h) fun _ => ?_
 refine W_brd (fun h => absurd h (by omega)) fun _ => ?_
 refine W_brd (fun h => absurd h (by omega)) fun _ => ?_
 refine W_loop (fun st => (1 ≤ st.2 ∧ st.2 ≤ 17) ∧ st.1 = ((List.range st.2.toNat).filter (hits l s)).map fun n : Nat => (n : Int)) (fun st => 17 - st.2.toNat) ?_ ⟨⟨by dsimp only; omega, by dsimp only; omega⟩, ?_⟩
 rotate_left
 ·dsimp only
  have : List.range (1 : Int).toNat = [0] := rfl
  rw [this, List.filter_cons, hits0 h.ok]
  rfl
 rintro ⟨out, i⟩ ⟨⟨i1, i2⟩, hO⟩
 dsimp only at i1 i2 hO ⊢
 have hstep : ∀ j : Int, j = i + 1 → ((List.range j.toNat).filter (hits l s)).map (fun n : Nat => (n : Int)) = out ++ (if hits l s i.toNat = true then [i] else []) := by
  intro j hj
  have : j.toNat = i.toNat + 1 := by omega
  rw [this, List.range_succ, List.filter_append, List.map_append, ← hO]
  congr 1
  rw [List.filter_cons]
  split
  ·simp only [List.filter_nil, List.map_cons, List.map_nil]
   congr 1
   omega
  ·rfl
 have hol : out.length ≤ 17 := by
  rw [hO, List.length_map]
  refine Nat.le_trans (List.length_filter_le _ _) ?_
  simp; omega
 refine W_if (fun h1 => ?_) (fun h1 => ?_)
 ·refine W_eq (match_ref h.ok (by omega) i s (by omega) h0) ?_
  refine W_br (fun hf => ?_) (fun hf => ?_)
  ·refine W_appc (by simp; omega) fun o ho => ?_
   refine W_op fun j hj => ?_
   refine W_next ⟨⟨⟨by dsimp only; omega, by dsimp only; omega⟩, ?_⟩, by dsimp only; omega⟩
   dsimp only
   rw [hstep j hj, if_pos hf, ho]
  ·refine W_op fun j hj => ?_
   refine W_next ⟨⟨⟨by dsimp only; omega, by dsimp only; omega⟩, ?_⟩, by dsimp only; omega⟩
   dsimp only
   rw [hstep j hj, if_neg (by rw [hf]; decide), List.append_nil]
 ·refine W_done (W_ret ?_)
  have : i.toNat = 17 := by omega
  rw [hO, this]
  rfl
theorem same2_w {a b : List EID} (h : a = b) (hl : a.length ≤ 1000) : packhorselaw05_same (a, b) = some true := same_w h hl
theorem match_both (l : List EID) (n s : Int) : ∃ r, eid_Match (l, n, s) = some r ∧ packhorseref05_Match (l, n, s) = some r := by
 by_cases hp : patE l = 0
 ·have hP := patE_ok hp
  have hlen := hP.len
  by_cases hr : 1 ≤ n ∧ n ≤ 16 ∧ 0 ≤ s ∧ s ≤ 999
  ·refine ⟨_, match_eq hP hr.1 hr.2.1 hr.2.2.1 hr.2.2.2, W.eq ?_⟩
   unfold packhorseref05_Match
   dsimp only
   refine W_eq (asks_eq l) ?_
   rw [hp]
   refine W_brne (fun h => absurd rfl h) fun _ => ?_
   iterate 4 (refine W_brd (fun h => absurd h (by omega)) fun _ => ?_)
   refine W_eq (match_ref hP.ok (by omega) n s (by omega) hr.2.2.1) ?_
   exact W_ret rfl
  ·refine ⟨(false, 2), W.eq ?_, W.eq ?_⟩
   ·unfold eid_Match
    dsimp only
    refine W_eq (pattern_eq l) ?_
    rw [hp]
    refine W_breq (fun _ => ?_) (fun h => absurd rfl h)
    iterate 4 (refine W_brd (fun h => W_brne (fun _ => W_ret rfl) (fun h => absurd h (by decide))) fun _ => ?_)
    omega
   ·unfold packhorseref05_Match
    dsimp only
    refine W_eq (asks_eq l) ?_
    rw [hp]
    refine W_brne (fun h => absurd rfl h) fun _ => ?_
    iterate 4 (refine W_brd (fun h => W_ret rfl) fun _ => ?_)
    omega
 ·refine ⟨(false, patE l), W.eq ?_, W.eq ?_⟩
  ·unfold eid_Match
   dsimp only
   refine W_eq (pattern_eq l) ?_
   refine W_breq (fun h => absurd h hp) (fun _ => ?_)
   exact W_brne (fun _ => W_ret rfl) (fun h => absurd h hp)
  ·unfold packhorseref05_Match
   dsimp only
   refine W_eq (asks_eq l) ?_
   exact W_brne (fun _ => W_ret rfl) (fun h => absurd h hp)
theorem nodes_both (l : List EID) (s : Int) : ∃ r, eid_Nodes (l, s) = some r ∧ packhorseref05_Nodes (l, s) = some r ∧ r.1.length ≤ 17 := by
 by_cases hp : patE l = 0
 ·have hP := patE_ok hp
  by_cases hr : 0 ≤ s ∧ s ≤ 999
  ·exact ⟨_, nodes_eq hP hr.1 hr.2, nodesR_w hP hr.1 hr.2, nodesL_len l s⟩
  ·refine ⟨([], 2), W.eq ?_, W.eq ?_, by simp⟩
   ·unfold eid_Nodes
    dsimp only
    refine W_eq (pattern_eq l) ?_
    rw [hp]
    refine W_breq (fun _ => ?_) (fun h => absurd rfl h)
    iterate 2 (refine W_brd (fun h => W_brne (fun _ => W_ret rfl) (fun h => absurd h (by decide))) fun _ => ?_)
    omega
   ·unfold packhorseref05_Nodes
    dsimp only
    refine W_eq (asks_eq l) ?_
    rw [hp]
    refine W_brne (fun h => absurd rfl h) fun _ => ?_
    iterate 2 (refine W_brd (fun h => W_ret rfl) fun _ => ?_)
    omega
 ·refine ⟨([], patE l), W.eq ?_, W.eq ?_, by simp⟩
  ·unfold eid_Nodes
   dsimp only
   refine W_eq (pattern_eq l) ?_
   refine W_breq (fun h => absurd h hp) (fun _ => ?_)
   exact W_brne (fun _ => W_ret rfl) (fun h => absurd h hp)
  ·unfold packhorseref05_Nodes
   dsimp only
   refine W_eq (asks_eq l) ?_
   exact W_brne (fun _ => W_ret rfl) (fun h => absurd h hp)
theorem join_both (l : List EID) : ∃ r, eid_Join l = some r ∧ packhorseref05_Join l = some r := by
 by_cases hp : patE l = 0
 ·exact ⟨_, joinP_w (patE_ok hp), joinR_w (patE_ok hp)⟩
 ·refine ⟨([], patE l), W.eq ?_, W.eq ?_⟩
  ·unfold eid_Join
   refine W_eq (pattern_eq l) ?_
   exact W_brne (fun _ => W_ret rfl) (fun h => absurd h hp)
  ·unfold packhorseref05_Join
   refine W_eq (asks_eq l) ?_
   exact W_brne (fun _ => W_ret rfl) (fun h => absurd h hp)
theorem canon_both (l : List EID) : ∃ r, eid_Canon l = some r ∧ packhorseref05_Canon l = some r ∧ r.1.length ≤ 20 := by
 by_cases hp : patE l = 0
 ·refine ⟨_, canon_eq (patE_ok hp), canonR_eq (patE_ok hp), ?_⟩
  split
  ·simp
  ·dsimp only; omega
 ·refine ⟨([], patE l), W.eq ?_, W.eq ?_, by simp⟩
  ·unfold eid_Canon
   refine W_eq (pattern_eq l) ?_
   exact W_brne (fun _ => W_ret rfl) (fun h => absurd h hp)
  ·unfold packhorseref05_Canon
   refine W_eq (asks_eq l) ?_
   exact W_brne (fun _ => W_ret rfl) (fun h => absurd h hp)
theorem matches_w (l : List EID) (n s : Int) : packhorselaw05_EidMatches (l, n, s) = some true := by
 refine W.eq ?_
 unfold packhorselaw05_EidMatches
 dsimp only
 refine W_if (fun _ => ?_) (fun hl => ?_)
 ·refine W_eq awake_w ?_
  exact W_ret rfl
 have hown : packhorselaw05_own l = some l := by
  refine W.eq ?_
  unfold packhorselaw05_own
  refine W_appc (by simp; omega) fun c hc => ?_
  exact W_ret (by rw [hc, List.nil_append])
 refine W_eq hown ?_
 obtain ⟨⟨m1, m2⟩, a1, a2⟩ := match_both l n s
 obtain ⟨⟨j1, j2⟩, b1, b2⟩ := join_both l
 obtain ⟨⟨n1, n2⟩, c1, c2, c3⟩ := nodes_both l s
 obtain ⟨⟨k1, k2⟩, d1, d2, d3⟩ := canon_both l
 dsimp only at c3 d3
 refine W_eq a1 ?_
 dsimp only
 refine W_eq a2 ?_
 dsimp only
 refine W_eq b1 ?_
 dsimp only
 refine W_eq b2 ?_
 dsimp only
 refine W_brnot ?_
 refine W_br (fun _ => ?_) (fun h => by simp at h)
 refine W_brne (fun h => absurd rfl h) fun _ => ?_
 refine W_brnot ?_
 refine W_br (fun _ => ?_) (fun h => by simp at h)
 refine W_brne (fun h => absurd rfl h) fun _ => ?_
 refine W_eq c1 ?_
 dsimp only
 refine W_eq c2 ?_
 dsimp only
 refine W_brne (fun h => absurd rfl h) fun _ => ?_
 refine W_brne (fun h => absurd rfl h) fun _ => ?_
 refine W_loop (fun i => 0 ≤ i ∧ i ≤ (n1.length : Int)) (fun i => n1.length - i.toNat) ?_ ⟨by omega, by omega⟩
 rintro i ⟨i1, i2⟩
 refine W_if (fun h1 => ?_) (fun h1 => ?_)
 ·refine W_idx i1 h1 fun x hx => ?_
  refine W_idx i1 h1 fun y hy => ?_
  rw [hx] at hy
  cases hy
  refine W_brne (fun h => absurd rfl h) fun _ => ?_
  refine W_op fun j hj => ?_
  exact W_next ⟨⟨by omega, by omega⟩, by omega⟩
 ·refine W_done ?_
  dsimp only [Sum.elim]
  refine W_eq d1 ?_
  dsimp only
  refine W_eq d2 ?_
  dsimp only
  refine W_eq (same_w rfl (by omega)) ?_
  refine W_brT ?_
  refine W_breq (fun _ => ?_) (fun h => absurd rfl h)
  refine W_eq (same_w rfl (by omega)) ?_
  refine W_brT ?_
  refine W_eq awake_w ?_
  exact W_ret rfl
end Go.Proofs.YtecpknddocikaaaGreatDoor
