import Derived.Test.YtecpknddocikaaaGreatDoorXL
import Derived.Test.YtecpknddocikaaaGreatDoorXGCan
set_option linter.unusedSimpArgs false
set_option linter.unusedVariables false
namespace Go.Proofs.YtecpknddocikaaaGreatDoor
open Go.X Go.Eng
structure OKE (e : EID) : Prop where
 lo : 1 ≤ e.Low
 lh : e.Low ≤ e.High
 hi : e.High ≤ 16
 s1 : -1 ≤ e.Service
 s2 : e.Service ≤ 999
structure OKP (l : List EID) : Prop where
 len : l.length ≤ 20
 ok : ∀ e ∈ l, OKE e
theorem W_appc {α β : Type} {l m : List α} {n : Nat} {f : List α → Option β} {Q : β → Prop} (h : (l.length + m.length) * n ≤ 140737488355328) (k : ∀ c, c = l ++ m → W (f c) Q) : W ((app n l m).bind f) Q := W_app h (k _ rfl)
theorem check_ok {e : EID} (h : OKE e) : eid_Check e = some 0 := by
 obtain ⟨h1, h2, h3, h4, h5⟩ := h
 refine W.eq ?_
 unfold eid_Check
 iterate 5 (refine W_brd (fun h => absurd h (by omega)) fun _ => ?_)
 exact W_ret rfl
theorem pattern_ok {l : List EID} (h : OKP l) : eid_pattern l = some 0 := by
 obtain ⟨hlen, hok⟩ := h
 refine W.eq ?_
 unfold eid_pattern
 refine W_brd (fun h => absurd h (by omega)) fun _ => ?_
 refine W_loop (fun i => 0 ≤ i ∧ i ≤ (l.length : Int)) (fun i => l.length - i.toNat) ?_ ⟨by omega, by omega⟩
 rintro i ⟨i1, i2⟩
 refine W_if (fun h1 => ?_) (fun h1 => ?_)
 ·refine W_idx i1 h1 fun x hx => ?_
  refine W_eq (check_ok (hok x (List.mem_of_getElem? hx))) ?_
  refine W_brne (fun h => absurd rfl h) fun _ => ?_
  refine W_op fun j hj => ?_
  exact W_next ⟨⟨by omega, by omega⟩, by omega⟩
 ·exact W_done (W_ret rfl)
def hits (l : List EID) (s : Int) (n : Nat) : Bool := l.any fun e => (e.Service == s || e.Service == -1) && (decide (e.Low ≤ n) && decide ((n : Int) ≤ e.High))
def tab (f : Nat → Bool) : List Bool := (List.range 17).map f
theorem tab_len (f : Nat → Bool) : (tab f).length = 17 := by simp [tab]
theorem tab_get (f : Nat → Bool) (n : Nat) (h : n < 17) : (tab f)[n]? = some (f n) := by simp [tab, h]
theorem tab_getD (f : Nat → Bool) (n : Nat) (h : n < 17) (d : Bool) : (tab f).getD n d = f n := by rw [List.getD_eq_getElem?_getD, tab_get f n h]; rfl
theorem lit_tab (f : Nat → Bool) : lit_a17_bool (tab f) = tab f := lit_a17_bool_eq (tab_len f)
theorem tab_congr {f g : Nat → Bool} (h : ∀ n, n < 17 → f n = g n) : tab f = tab g := by
 unfold tab
 refine List.map_congr_left fun n hn => h n (by simpa using hn)
theorem tab_set (f : Nat → Bool) (i : Nat) (b : Bool) (h : i < 17) : (tab f).set i b = tab fun n => if n = i then b else f n := by
 refine List.ext_getElem? fun n => ?_
 by_cases hn : n < 17
 ·rw [tab_get _ n hn]
  by_cases e : n = i
  ·subst e; rw [List.getElem?_set_self (by rw [tab_len]; exact h)]; simp
  ·rw [List.getElem?_set_ne (Ne.symm e), tab_get f n hn, if_neg e]
 ·rw [List.getElem?_eq_none (by simp [tab_len]; omega), List.getElem?_eq_none (by rw [tab_len]; omega)]
theorem W_putA {β : Type} {f : Nat → Bool} {i : Int} {b : Bool} {k : List Bool → Option β} {Q : β → Prop} (h0 : 0 ≤ i) (h1 : i < 17) (hk : W (k (tab fun n => if n = i.toNat then b else f n)) Q) : W ((putA (tab f) i b).bind k) Q := by
 have : putA (tab f) i b = some (tab fun n => if n = i.toNat then b else f n) := by
  unfold putA
  rw [if_pos ⟨h0, by rw [tab_len]; omega⟩, tab_set f _ _ (by omega)]
 exact W_eq this hk
theorem W_idxT {β : Type} {f : Nat → Bool} {i : Int} {k : Bool → Option β} {Q : β → Prop} (h0 : 0 ≤ i) (h1 : i < 17) (hk : W (k (f i.toNat)) Q) : W ((idx (tab f) i).bind k) Q := by
 refine W_idx h0 (by rw [tab_len]; omega) fun x hx => ?_
 rw [tab_get f _ (by omega)] at hx
 cases hx
 exact hk
theorem fill_w {lo hi : Int} (h0 : 0 ≤ lo) (h1 : lo ≤ hi + 1) (h2 : hi ≤ 16) (f : Nat → Bool) :
  iter (σ := Int × (List Bool)) (ρ := List Bool) (fun (n_6, x_7) =>
     br (decide (n_6 ≤ hi))
      (br (inB n_6 17)
       ((putA (lit_a17_bool x_7) n_6 true).bind fun x_8 =>
       (addI .i64 n_6 (1 : Int)).bind fun x_9 =>
       some (.next (x_9, (lit_a17_bool x_8))))
       (none))
      (some (.done (lit_a17_bool x_7)))) (lo, tab f) = some (tab fun n => f n || (decide (lo ≤ n) && decide ((n : Int) ≤ hi))) := by
 refine W.eq ?_
 refine W_iter (fun s => (lo ≤ s.1 ∧ s.1 ≤ hi + 1) ∧ s.2 = tab fun n => f n || (decide (lo ≤ n) && decide ((n : Int) < s.1))) (fun s => 17 - s.1.toNat) ?_ ⟨⟨by dsimp only; omega, h1⟩, ?_⟩
 ·rintro ⟨i, M⟩ ⟨⟨i1, i2⟩, hM⟩
  dsimp only at i1 i2 hM ⊢
  rw [hM, lit_tab]
  refine W_if (fun h3 => ?_) (fun h3 => ?_)
  ·refine W_brin (by omega) (by omega) ?_
   refine W_putA (by omega) (by omega) ?_
   refine W_op fun j hj => ?_
   rw [lit_tab]
   refine W_next ⟨⟨⟨by dsimp only; omega, by dsimp only; omega⟩, ?_⟩, by dsimp only; omega⟩
   dsimp only
   refine tab_congr fun n hn => ?_
   by_cases e : n = i.toNat
   ·subst e
    rw [if_pos rfl]
    have : decide (lo ≤ (i.toNat : Int)) = true := by simp; omega
    have q : decide ((i.toNat : Int) < j) = true := by simp; omega
    rw [this, q]; simp
   ·rw [if_neg e]
    have : decide ((n : Int) < j) = decide ((n : Int) < i) := by
     rw [decide_eq_decide]; omega
    rw [this]
  ·refine W_done ?_
   refine tab_congr fun n hn => ?_
   have : decide ((n : Int) < i) = decide ((n : Int) ≤ hi) := by
    rw [decide_eq_decide]; omega
   rw [this]
 ·refine tab_congr fun n hn => ?_
  have : (decide (lo ≤ (n : Int)) && decide ((n : Int) < lo)) = false := by
   rw [Bool.and_eq_false_iff]; simp; omega
  rw [this]; simp
theorem matched_eq {l : List EID} (h : ∀ e ∈ l, OKE e) (hl : l.length ≤ 1000) (s : Int) : eid_matched (l, s) = some (tab (hits l s)) := by
 refine W.eq ?_
 unfold eid_matched
 dsimp only
 refine W_loop (fun st => (0 ≤ st.1 ∧ st.1 ≤ (l.length : Int)) ∧ st.2 = tab (hits (l.take st.1.toNat) s)) (fun st => l.length - st.1.toNat) ?_ ⟨⟨by dsimp only; omega, by dsimp only; omega⟩, rfl⟩
 rintro ⟨i, M⟩ ⟨⟨i1, i2⟩, hM⟩
 dsimp only at i1 i2 hM ⊢
 subst hM
 rw [lit_tab]
 refine W_if (fun h1 => ?_) (fun h1 => ?_)
 ·refine W_idx i1 h1 fun e he => ?_
  obtain ⟨o1, o2, o3, o4, o5⟩ := h e (List.mem_of_getElem? he)
  have hstep : ∀ j : Int, j = i + 1 → ∀ n, hits (l.take j.toNat) s n = (hits (l.take i.toNat) s n || ((e.Service == s || e.Service == -1) && (decide (e.Low ≤ n) && decide ((n : Int) ≤ e.High)))) := by
   intro j hj n
   have : j.toNat = i.toNat + 1 := by omega
   rw [this, List.take_add_one, he]
   unfold hits
   rw [List.any_append]
   simp
  refine W_if (fun h2 => ?_) (fun h2 => ?_)
  ·refine W_eq (fill_w (by omega) (by omega) (by omega) _) ?_
   refine W_op fun j hj => ?_
   rw [lit_tab]
   refine W_next ⟨⟨⟨by dsimp only; omega, by dsimp only; omega⟩, ?_⟩, by dsimp only; omega⟩
   dsimp only
   refine tab_congr fun n hn => ?_
   rw [hstep j hj n, h2]; simp
  ·refine W_if (fun h3 => ?_) (fun h3 => ?_)
   ·refine W_eq (fill_w (by omega) (by omega) (by omega) _) ?_
    refine W_op fun j hj => ?_
    rw [lit_tab]
    refine W_next ⟨⟨⟨by dsimp only; omega, by dsimp only; omega⟩, ?_⟩, by dsimp only; omega⟩
    dsimp only
    refine tab_congr fun n hn => ?_
    rw [hstep j hj n, h3]; simp
   ·refine W_op fun j hj => ?_
    refine W_next ⟨⟨⟨by dsimp only; omega, by dsimp only; omega⟩, ?_⟩, by dsimp only; omega⟩
    dsimp only
    refine tab_congr fun n hn => ?_
    rw [hstep j hj n]
    have e1 : (e.Service == s) = false := by simpa using h2
    have e2 : (e.Service == -1) = false := by simpa using h3
    rw [e1, e2]; simp
 ·have : i.toNat = l.length := by omega
  rw [this, List.take_length]
  refine W_done ?_
  dsimp only
  rw [lit_tab]
  exact W_ret rfl
def rgs (f : Nat → Bool) (s : Int) : Nat → List EID
 | 0 => []
 | k + 1 => if f k = true then (if 0 < k ∧ f (k - 1) = true then (rgs f s k).set ((rgs f s k).length - 1) ⟨((rgs f s k).getD ((rgs f s k).length - 1) default).Low, k, s⟩ else rgs f s k ++ [⟨k, k, s⟩]) else rgs f s k
theorem rgs_congr {f g : Nat → Bool} {s : Int} : ∀ {k : Nat}, (∀ n, n < k → f n = g n) → rgs f s k = rgs g s k
 | 0, _ => rfl
 | k + 1, h => by
  have ih := rgs_congr (s := s) (k := k) fun n hn => h n (by omega)
  have h1 := h k (by omega)
  by_cases hk : 0 < k
  ·have h2 := h (k - 1) (by omega)
   simp only [rgs, ih, h1, h2]
  ·have : ¬ (0 < k ∧ f (k - 1) = true) := fun h => hk h.1
   have q : ¬ (0 < k ∧ g (k - 1) = true) := fun h => hk h.1
   simp only [rgs, ih, h1, if_neg this, if_neg q]
structure Rgs (f : Nat → Bool) (s : Int) (k : Nat) (l : List EID) : Prop where
 srv : ∀ e ∈ l, e.Service = s
 bnd : ∀ e ∈ l, 0 ≤ e.Low ∧ e.Low ≤ e.High ∧ e.High < k
 mem : ∀ e ∈ l, ∀ n : Nat, e.Low ≤ n → (n : Int) ≤ e.High → f n = true
 all : ∀ n : Nat, n < k → f n = true → ∃ e ∈ l, e.Low ≤ n ∧ (n : Int) ≤ e.High
 gap : l.Pairwise fun a b => a.High + 1 < b.Low
 last : 0 < k → f (k - 1) = true → ∃ (h : 0 < l.length), (l[l.length - 1]'(by omega)).High = (k : Int) - 1
 len : l.length ≤ k
theorem rgs_spec (f : Nat → Bool) (s : Int) : ∀ k, Rgs f s k (rgs f s k)
 | 0 => ⟨by simp [rgs], by simp [rgs], by simp [rgs], by simp, by simp [rgs], by simp, by simp [rgs]⟩
 | k + 1 => by
  have ih := rgs_spec f s k
  generalize hr : rgs f s k = r at ih
  by_cases hk : f k = true
  ·by_cases hp : 0 < k ∧ f (k - 1) = true
   ·obtain ⟨hlen, hlast⟩ := ih.last hp.1 hp.2
    have hset : rgs f s (k + 1) = r.set (r.length - 1) ⟨(r[r.length - 1]'(by omega)).Low, k, s⟩ := by
     simp only [rgs, hr, hk, hp, if_true, and_self]
     congr 2
     rw [List.getD_eq_getElem?_getD, List.getElem?_eq_getElem (by omega)]
     rfl
    rw [hset]
    have hmem : ∀ e ∈ r.set (r.length - 1) ⟨(r[r.length - 1]'(by omega)).Low, k, s⟩, (e ∈ r) ∨ e = ⟨(r[r.length - 1]'(by omega)).Low, k, s⟩ := fun e he => List.mem_or_eq_of_mem_set he
    have hbl := ih.bnd _ (List.getElem_mem (l := r) (n := r.length - 1) (by omega))
    refine ⟨fun e he => ?_, fun e he => ?_, fun e he n h1 h2 => ?_, fun n hn hf => ?_, ?_, fun _ _ => ⟨by simpa using hlen, ?_⟩, ?_⟩
    ·rcases hmem e he with h | h
     ·exact ih.srv e h
     ·rw [h]
    ·rcases hmem e he with h | h
     ·have := ih.bnd e h; omega
     ·rw [h]; dsimp only; omega
    ·rcases hmem e he with h | h
     ·exact ih.mem e h n h1 h2
     ·rw [h] at h1 h2
      dsimp only at h1 h2
      by_cases e' : n = k
      ·rw [e']; exact hk
      ·exact ih.mem _ (List.getElem_mem (l := r) (n := r.length - 1) (by omega)) n h1 (by rw [hlast]; omega)
    ·by_cases e' : n = k
     ·refine ⟨⟨(r[r.length - 1]'(by omega)).Low, k, s⟩, List.mem_set (by omega) _, ?_, ?_⟩
      ·dsimp only; omega
      ·dsimp only; omega
     ·obtain ⟨e, he, q1, q2⟩ := ih.all n (by omega) hf
      obtain ⟨j, hj, rfl⟩ := List.mem_iff_getElem.1 he
      by_cases ej : j = r.length - 1
      ·subst ej
       refine ⟨⟨(r[r.length - 1]'(by omega)).Low, k, s⟩, List.mem_set (by omega) _, ?_, ?_⟩
       ·exact q1
       ·dsimp only; omega
      ·refine ⟨r[j], ?_, q1, q2⟩
       rw [List.mem_iff_getElem]
       exact ⟨j, by simpa using hj, by rw [List.getElem_set_ne (Ne.symm ej)]⟩
    ·have hg := ih.gap
     rw [List.pairwise_iff_getElem] at hg ⊢
     intro i j hi hj hij
     rw [List.length_set] at hi hj
     rw [List.getElem_set_ne (by omega)]
     by_cases ej : j = r.length - 1
     ·subst ej
      rw [List.getElem_set_self]
      exact hg i (r.length - 1) hi hj hij
     ·rw [List.getElem_set_ne (Ne.symm ej)]
      exact hg i j hi hj hij
    ·have : (r.set (r.length - 1) ⟨(r[r.length - 1]'(by omega)).Low, k, s⟩).length - 1 = r.length - 1 := by simp
     rw [List.getElem_of_eq rfl]
     simp only [List.length_set, List.getElem_set_self]
     omega
    ·have := ih.len
     simp; omega
   ·have hset : rgs f s (k + 1) = r ++ [⟨k, k, s⟩] := by
     simp only [rgs, hr, hk, if_true, if_neg hp]
    rw [hset]
    refine ⟨fun e he => ?_, fun e he => ?_, fun e he n h1 h2 => ?_, fun n hn hf => ?_, ?_, fun _ _ => ⟨by simp, ?_⟩, ?_⟩
    ·rw [List.mem_append, List.mem_singleton] at he
     rcases he with h | h
     ·exact ih.srv e h
     ·rw [h]
    ·rw [List.mem_append, List.mem_singleton] at he
     rcases he with h | h
     ·have := ih.bnd e h; omega
     ·rw [h]; dsimp only; omega
    ·rw [List.mem_append, List.mem_singleton] at he
     rcases he with h | h
     ·exact ih.mem e h n h1 h2
     ·rw [h] at h1 h2
      dsimp only at h1 h2
      have : n = k := by omega
      rw [this]; exact hk
    ·by_cases e' : n = k
     ·exact ⟨⟨k, k, s⟩, by simp, by dsimp only; omega, by dsimp only; omega⟩
     ·obtain ⟨e, he, q⟩ := ih.all n (by omega) hf
      exact ⟨e, by simp [he], q⟩
    ·rw [List.pairwise_append]
     refine ⟨ih.gap, by simp, fun a ha b hb => ?_⟩
     rw [List.mem_singleton] at hb
     rw [hb]
     dsimp only
     have hb := ih.bnd a ha
     by_cases q : a.High + 1 = k
     ·exfalso
      apply hp
      refine ⟨by omega, ih.mem a ha (k - 1) (by omega) (by omega)⟩
     ·omega
    ·simp
    ·have := ih.len
     simp; omega
  ·have hset : rgs f s (k + 1) = r := by simp only [rgs, hr, if_neg hk]
   rw [hset]
   refine ⟨ih.srv, fun e he => ?_, ih.mem, fun n hn hf => ?_, ih.gap, fun _ h => absurd h hk, ?_⟩
   ·have := ih.bnd e he; omega
   ·by_cases e' : n = k
    ·rw [e'] at hf; exact absurd hf hk
    ·exact ih.all n (by omega) hf
   ·have := ih.len
    omega
theorem rgs_none {f : Nat → Bool} {s : Int} {k : Nat} (h : ∀ n, n < k → f n = false) : rgs f s k = [] := by
 have hs := rgs_spec f s k
 cases hr : rgs f s k with
 | nil => rfl
 | cons e t =>
  rw [hr] at hs
  have hb := hs.bnd e (by simp)
  have := hs.mem e (by simp) e.Low.toNat (by omega) (by omega)
  rw [h _ (by omega)] at this
  cases this
theorem ranges_eq {f : Nat → Bool} (s : Int) (h0 : f 0 = false) : eid_nodes_ranges (tab f, s) = some (rgs f s 17) := by
 refine W.eq ?_
 unfold eid_nodes_ranges
 dsimp only
 refine W_br (fun h => ?_) (fun _ => ?_)
 ·refine W_ret (rgs_none fun n hn => ?_).symm
  simp only [Bool.and_eq_true, beq_iff_eq] at h
  simp only [tab_getD f _ (by omega : 0 < 17), tab_getD f _ (by omega : 1 < 17), tab_getD f _ (by omega : 2 < 17), tab_getD f _ (by omega : 3 < 17), tab_getD f _ (by omega : 4 < 17), tab_getD f _ (by omega : 5 < 17), tab_getD f _ (by omega : 6 < 17), tab_getD f _ (by omega : 7 < 17), tab_getD f _ (by omega : 8 < 17), tab_getD f _ (by omega : 9 < 17), tab_getD f _ (by omega : 10 < 17), tab_getD f _ (by omega : 11 < 17), tab_getD f _ (by omega : 12 < 17), tab_getD f _ (by omega : 13 < 17), tab_getD f _ (by omega : 14 < 17), tab_getD f _ (by omega : 15 < 17), tab_getD f _ (by omega : 16 < 17)] at h
  obtain ⟨a0, a1, a2, a3, a4, a5, a6, a7, a8, a9, a10, a11, a12, a13, a14, a15, a16⟩ := h
  rcases (by omega : n = 0 ∨ n = 1 ∨ n = 2 ∨ n = 3 ∨ n = 4 ∨ n = 5 ∨ n = 6 ∨ n = 7 ∨ n = 8 ∨ n = 9 ∨ n = 10 ∨ n = 11 ∨ n = 12 ∨ n = 13 ∨ n = 14 ∨ n = 15 ∨ n = 16) with rfl | rfl | rfl | rfl | rfl | rfl | rfl | rfl | rfl | rfl | rfl | rfl | rfl | rfl | rfl | rfl | rfl <;> assumption
 ·refine W_loop (fun st => (0 ≤ st.2 ∧ st.2 ≤ 17) ∧ st.1 = rgs f s st.2.toNat) (fun st => 17 - st.2.toNat) ?_ ⟨⟨by dsimp only; omega, by dsimp only; omega⟩, rfl⟩
  rintro ⟨out, i⟩ ⟨⟨i1, i2⟩, hO⟩
  dsimp only at i1 i2 hO ⊢
  rw [lit_tab]
  have hsp := rgs_spec f s i.toNat
  rw [← hO] at hsp
  have hl := hsp.len
  refine W_if (fun h1 => ?_) (fun h1 => ?_)
  ·refine W_brin i1 (by omega) ?_
   refine W_idxT i1 (by omega) ?_
   refine W_br (fun hf => ?_) (fun hf => ?_)
   ·have hi0 : 0 < i := by
     by_cases e : i = 0
     ·rw [e] at hf
      have : f 0 = true := hf
      rw [h0] at this; cases this
     ·omega
    refine W_op fun j hj => ?_
    refine W_brin (by omega) (by omega) ?_
    refine W_idxT (by omega) (by omega) ?_
    have hj1 : j.toNat = i.toNat - 1 := by omega
    refine W_br (fun hg => ?_) (fun hg => ?_)
    ·rw [hj1] at hg
     obtain ⟨hpos, hlast⟩ := hsp.last (by omega) hg
     refine W_op fun q hq => ?_
     refine W_brin (by omega) (by omega) ?_
     refine W_idx (by omega) (by omega) fun x hx => ?_
     refine W_op fun p hp => ?_
     refine W_next ⟨⟨⟨by dsimp only; omega, by dsimp only; omega⟩, ?_⟩, by dsimp only; omega⟩
     dsimp only
     have e1 : p.toNat = i.toNat + 1 := by omega
     have e2 : q.toNat = out.length - 1 := by omega
     rw [e1]
     have hpp : 0 < i.toNat ∧ f (i.toNat - 1) = true := ⟨by omega, hg⟩
     simp only [rgs, hf, if_true, ← hO, if_pos hpp, setI, e2]
     rw [e2] at hx
     congr 1
     have hs := hsp.srv x (List.mem_of_getElem? hx)
     rw [List.getD_eq_getElem?_getD, hx, hs]
     simp only [Option.getD_some]
     congr 1
     omega
    ·rw [hj1] at hg
     have hpp : ¬ (0 < i.toNat ∧ f (i.toNat - 1) = true) := fun h => by rw [hg] at h; cases h.2
     rw [hf]
     refine W_brT ?_
     refine W_appc (by simp; omega) fun o ho => ?_
     refine W_op fun p hp => ?_
     refine W_next ⟨⟨⟨by dsimp only; omega, by dsimp only; omega⟩, ?_⟩, by dsimp only; omega⟩
     dsimp only
     have e1 : p.toNat = i.toNat + 1 := by omega
     have e2 : i = (i.toNat : Int) := by omega
     rw [e1, ho]
     simp only [rgs, hf, if_true, ← hO, if_neg hpp]
     rw [← e2]
   ·rw [hf]
    refine W_brF ?_
    refine W_op fun p hp => ?_
    refine W_next ⟨⟨⟨by dsimp only; omega, by dsimp only; omega⟩, ?_⟩, by dsimp only; omega⟩
    dsimp only
    have e1 : p.toNat = i.toNat + 1 := by omega
    rw [e1]
    simp only [rgs, hf, ← hO]
    rfl
  ·refine W_done (W_ret ?_)
   have : i.toNat = 17 := by omega
   rw [hO, this]
end Go.Proofs.YtecpknddocikaaaGreatDoor
namespace Go.Proofs.YtecpknddocikaaaGreatDoor
open Go.X Go.Eng
theorem compact_sorted (d : Array Int) (hs : ∀ i j, i < j → j < d.size → d[i]! ≤ d[j]!) : ∀ m, m ≤ d.size →
  (Go.Lib.compactUpTo d m).Pairwise (· < ·) ∧ ∀ x, x ∈ Go.Lib.compactUpTo d m ↔ ∃ j, j < m ∧ d[j]! = x
 | 0, _ => by simp [Go.Lib.compactUpTo]
 | m + 1, hm => by
  obtain ⟨h1, h2⟩ := compact_sorted d hs m (by omega)
  rw [Go.Lib.compactUpTo_succ]
  by_cases hk : Go.Lib.keeps d m = true
  ·rw [if_pos hk]
   have hk' : m = 0 ∨ d[m]! ≠ d[m - 1]! := by simpa [Go.Lib.keeps] using hk
   constructor
   ·rw [List.pairwise_append]
    refine ⟨h1, by simp, fun a ha b hb => ?_⟩
    rw [List.mem_singleton] at hb
    subst hb
    obtain ⟨j, hj, rfl⟩ := (h2 a).1 ha
    rcases hk' with q | q
    ·omega
    ·have q1 : d[j]! ≤ d[m - 1]! := by
      by_cases e : j = m - 1
      ·rw [e]; omega
      ·exact hs j (m - 1) (by omega) (by omega)
     have q2 : d[m - 1]! ≤ d[m]! := hs (m - 1) m (by omega) (by omega)
     omega
   ·intro x
    rw [List.mem_append, List.mem_singleton, h2]
    constructor
    ·rintro (⟨j, hj, e⟩ | rfl)
     ·exact ⟨j, by omega, e⟩
     ·exact ⟨m, by omega, rfl⟩
    ·rintro ⟨j, hj, e⟩
     by_cases q : j = m
     ·subst q; exact .inr e.symm
     ·exact .inl ⟨j, by omega, e⟩
  ·rw [if_neg hk, List.append_nil]
   have hk' : ¬ (m = 0 ∨ d[m]! ≠ d[m - 1]!) := by simpa [Go.Lib.keeps] using hk
   have hm0 : m ≠ 0 := fun h => hk' (.inl h)
   have he : d[m]! = d[m - 1]! := by
    by_cases q : d[m]! = d[m - 1]!
    ·exact q
    ·exact absurd (.inr q) hk'
   refine ⟨h1, fun x => ?_⟩
   rw [h2]
   constructor
   ·rintro ⟨j, hj, e⟩
    exact ⟨j, by omega, e⟩
   ·rintro ⟨j, hj, e⟩
    by_cases q : j = m
    ·subst q; exact ⟨j - 1, by omega, by rw [← he]; exact e⟩
    ·exact ⟨j, by omega, e⟩
theorem srt_compact (zs : List Int) : (Go.Lib.compact (slices_Sort_int_int.srt zs)).Pairwise (· < ·) ∧ ∀ x, x ∈ Go.Lib.compact (slices_Sort_int_int.srt zs) ↔ x ∈ zs := by
 have hp : (slices_Sort_int_int.srt zs).Perm zs := List.mergeSort_perm _ _
 have hs : (slices_Sort_int_int.srt zs).Pairwise fun a b => decide (a ≤ b) = true :=
  List.pairwise_mergeSort (fun a b c h1 h2 => by simp at *; omega) (fun a b => by simp; omega) zs
 generalize slices_Sort_int_int.srt zs = d at hp hs
 have hs' : ∀ i j, i < j → j < d.toArray.size → d.toArray[i]! ≤ d.toArray[j]! := by
  intro i j hij hj
  rw [List.pairwise_iff_getElem] at hs
  have hj' : j < d.length := by simpa using hj
  have := hs i j (by omega) hj' hij
  rw [getElem!_pos d.toArray j hj, getElem!_pos d.toArray i (by omega)]
  simpa using this
 obtain ⟨h1, h2⟩ := compact_sorted d.toArray hs' d.length (by simp)
 refine ⟨h1, fun x => ?_⟩
 rw [← hp.mem_iff]
 show x ∈ Go.Lib.compactUpTo d.toArray d.length ↔ _
 rw [h2]
 constructor
 ·rintro ⟨j, hj, e⟩
  rw [getElem!_pos d.toArray j (by simpa using hj)] at e
  rw [← e]
  simp
 ·intro hx
  obtain ⟨j, hj, e⟩ := List.mem_iff_getElem.1 hx
  refine ⟨j, hj, ?_⟩
  rw [getElem!_pos d.toArray j (by simpa using hj)]
  simpa using e
def allS : List Int := (List.range 1001).map fun i : Nat => (i : Int) - 1
theorem allS_mem (s : Int) : s ∈ allS ↔ -1 ≤ s ∧ s ≤ 999 := by
 unfold allS
 rw [List.mem_map]
 constructor
 ·rintro ⟨i, hi, rfl⟩
  rw [List.mem_range] at hi
  omega
 ·rintro ⟨h1, h2⟩
  exact ⟨(s + 1).toNat, by rw [List.mem_range]; omega, by omega⟩
theorem allS_lt : allS.Pairwise (· < ·) := by
 unfold allS
 rw [List.pairwise_map]
 exact List.pairwise_lt_range.imp fun {a b} h => by omega
theorem lt_eq {l m : List Int} (hl : l.Pairwise (· < ·)) (hm : m.Pairwise (· < ·)) (h : ∀ x, x ∈ l ↔ x ∈ m) : l = m := by
 have n1 : l.Nodup := hl.imp fun {a b} h => by omega
 have n2 : m.Nodup := hm.imp fun {a b} h => by omega
 refine List.Perm.eq_of_pairwise (le := fun a b => a < b) ?_ hl hm ((List.perm_ext_iff_of_nodup n1 n2).2 h)
 intro a b _ _ h1 h2
 omega
theorem flatMap_filter {α β : Type} (p : α → Bool) (R : α → List β) : ∀ (l : List α), (∀ x ∈ l, p x = false → R x = []) → (l.filter p).flatMap R = l.flatMap R
 | [], _ => rfl
 | x :: l, h => by
  have ih := flatMap_filter p R l fun y hy => h y (by simp [hy])
  rw [List.filter_cons]
  cases hp : p x
  ·rw [if_neg (by simp), List.flatMap_cons, h x (by simp) hp, List.nil_append, ih]
  ·rw [if_pos rfl, List.flatMap_cons, List.flatMap_cons, ih]
theorem flatMap_all {β : Type} {sv : List Int} {R : Int → List β} (h1 : sv.Pairwise (· < ·)) (h2 : ∀ s ∈ sv, -1 ≤ s ∧ s ≤ 999) (h3 : ∀ s, s ∉ sv → R s = []) : sv.flatMap R = allS.flatMap R := by
 have : sv = allS.filter (fun s => decide (s ∈ sv)) := by
  refine lt_eq h1 (allS_lt.filter _) fun x => ?_
  rw [List.mem_filter, allS_mem, decide_eq_true_eq]
  exact ⟨fun h => ⟨h2 x h, h⟩, fun h => h.2⟩
 rw [this, flatMap_filter]
 intro x _ hx
 exact h3 x (by simpa using hx)
def gset (l : List EID) (s : Int) (n : Nat) : Bool := hits l s n && (s == -1 || !hits l (-1) n)
def canonL (l : List EID) : List EID := allS.flatMap fun s => rgs (gset l s) s 17
theorem hits_iff {l : List EID} {s : Int} {n : Nat} : hits l s n = true ↔ ∃ e ∈ l, (e.Service = s ∨ e.Service = -1) ∧ e.Low ≤ n ∧ (n : Int) ≤ e.High := by
 unfold hits
 rw [List.any_eq_true]
 simp only [Bool.and_eq_true, Bool.or_eq_true, beq_iff_eq, decide_eq_true_eq]
theorem hits0 {l : List EID} (h : ∀ e ∈ l, OKE e) (s : Int) : hits l s 0 = false := by
 rw [Bool.eq_false_iff]
 intro q
 obtain ⟨e, he, _, q1, _⟩ := hits_iff.1 q
 have := (h e he).lo
 omega
theorem gset0 {l : List EID} (h : ∀ e ∈ l, OKE e) (s : Int) : gset l s 0 = false := by unfold gset; rw [hits0 h]; rfl
theorem gset_none {l : List EID} {s : Int} (h : ∀ e ∈ l, e.Service ≠ s) (n : Nat) : gset l s n = false := by
 rw [Bool.eq_false_iff]
 intro q
 unfold gset at q
 rw [Bool.and_eq_true] at q
 obtain ⟨q1, q2⟩ := q
 obtain ⟨e, he, q3, q4⟩ := hits_iff.1 q1
 have q5 : e.Service = -1 := q3.resolve_left (h e he)
 have q6 : hits l (-1) n = true := hits_iff.2 ⟨e, he, .inl q5, q4⟩
 rw [q6] at q2
 have q7 : s = -1 := by simpa using q2
 exact h e he (q5.trans q7.symm)
theorem canon_eq {l : List EID} (h : OKP l) : eid_Canon l = some (if 20 < (canonL l).length then ([], 5) else (canonL l, 0)) := by
 refine W.eq ?_
 unfold eid_Canon
 refine W_eq (pattern_ok h) ?_
 refine W_brne (fun h => absurd rfl h) fun _ => ?_
 have hlen := h.len
 refine W_loop (fun st => (0 ≤ st.2 ∧ st.2 ≤ (l.length : Int)) ∧ st.1 = (l.take st.2.toNat).map (·.Service)) (fun st => l.length - st.2.toNat) ?_ ⟨⟨by dsimp only; omega, by dsimp only; omega⟩, rfl⟩
 rintro ⟨sv0, i⟩ ⟨⟨i1, i2⟩, hsv⟩
 dsimp only at i1 i2 hsv ⊢
 refine W_if (fun h1 => ?_) (fun h1 => ?_)
 ·refine W_idx i1 h1 fun e he => ?_
  refine W_appc (by rw [hsv]; simp; omega) fun o ho => ?_
  refine W_op fun j hj => ?_
  refine W_next ⟨⟨⟨by dsimp only; omega, by dsimp only; omega⟩, ?_⟩, by dsimp only; omega⟩
  dsimp only
  have : j.toNat = i.toNat + 1 := by omega
  rw [ho, hsv, this, List.take_add_one, he]
  simp
 have hi : i.toNat = l.length := by omega
 rw [hi, List.take_length] at hsv
 refine W_done ?_
 dsimp only
 have hsl : sv0.length = l.length := by rw [hsv]; simp
 have hsrt : srtG slices_Sort_int_int.srt sv0 = some (slices_Sort_int_int.srt sv0) := by unfold srtG; rw [if_pos (by omega)]
 refine W_eq hsrt ?_
 refine W_eq (matched_eq h.ok (by omega) (-1)) ?_
 obtain ⟨c1, c2⟩ := srt_compact sv0
 have c3 : (Go.Lib.compact (slices_Sort_int_int.srt sv0)).length ≤ l.length := by
  have q1 := compact_le (slices_Sort_int_int.srt sv0)
  have q2 : (slices_Sort_int_int.srt sv0).length = sv0.length := (List.mergeSort_perm _ _).length_eq
  omega
 refine W_eq (a := Go.Lib.compact (slices_Sort_int_int.srt sv0)) rfl ?_
 generalize Go.Lib.compact (slices_Sort_int_int.srt sv0) = sv at c1 c2 c3
 have hmem : ∀ s, s ∈ sv ↔ ∃ e ∈ l, e.Service = s := by
  intro s
  rw [c2, hsv, List.mem_map]
 have hfin : sv.flatMap (fun s => rgs (gset l s) s 17) = canonL l := by
  refine flatMap_all c1 (fun s hs => ?_) (fun s hs => ?_)
  ·obtain ⟨e, he, rfl⟩ := (hmem s).1 hs
   exact ⟨(h.ok e he).s1, (h.ok e he).s2⟩
  ·refine rgs_none fun n _ => gset_none (fun e he q => hs ((hmem s).2 ⟨e, he, q⟩)) n
 refine W_loop (fun st => (0 ≤ st.2 ∧ st.2 ≤ (sv.length : Int)) ∧ st.1 = (sv.take st.2.toNat).flatMap (fun s => rgs (gset l s) s 17) ∧ (st.1.length : Int) ≤ 17 * st.2) (fun st => sv.length - st.2.toNat) ?_ ⟨⟨by dsimp only; omega, by dsimp only; omega⟩, rfl, by simp⟩
 rintro ⟨out, k⟩ ⟨⟨k1, k2⟩, hout, hol⟩
 dsimp only at k1 k2 hout hol ⊢
 refine W_if (fun h2 => ?_) (fun h2 => ?_)
 ·refine W_idx k1 h2 fun s hs => ?_
  refine W_eq (matched_eq h.ok (by omega) s) ?_
  refine W_loop (fun st => (st.1 = out ∧ 0 ≤ st.2.1 ∧ st.2.1 ≤ 17) ∧ st.2.2 = tab fun n => if (n : Int) < st.2.1 then gset l s n else hits l s n) (fun st => 17 - st.2.1.toNat) ?_ ⟨⟨rfl, by dsimp only; omega, by dsimp only; omega⟩, ?_⟩
  ·rintro ⟨out', n, M⟩ ⟨⟨e1, n1, n2⟩, hM⟩
   dsimp only at e1 n1 n2 hM ⊢
   subst e1
   rw [hM, lit_tab]
   refine W_if (fun h3 => ?_) (fun h3 => ?_)
   ·refine W_brin n1 (by omega) ?_
    refine W_idxT n1 (by omega) ?_
    have hnn : ((n.toNat : Int) < n) = False := by simp; omega
    have hcur : (if (n.toNat : Int) < n then gset l s n.toNat else hits l s n.toNat) = hits l s n.toNat := if_neg (by omega)
    rw [hcur]
    have fin : ∀ (b : Bool) (j : Int), j = n + 1 → b = gset l s n.toNat → (lit_a17_bool (tab fun m => if m = n.toNat then b else (if (m : Int) < n then gset l s m else hits l s m))) = tab fun m => if (m : Int) < j then gset l s m else hits l s m := by
     intro b j hj hb
     rw [lit_tab]
     refine tab_congr fun m hm => ?_
     by_cases e : m = n.toNat
     ·rw [if_pos e, if_pos (by omega), hb, e]
     ·rw [if_neg e]
      by_cases q : (m : Int) < n
      ·rw [if_pos q, if_pos (by omega)]
      ·rw [if_neg q, if_neg (by omega)]
    refine W_br (fun hb => ?_) (fun hb => ?_)
    ·refine W_breq (fun hs1 => ?_) (fun hs1 => ?_)
     ·refine W_brin n1 (by omega) ?_
      refine W_putA n1 (by omega) ?_
      refine W_op fun j hj => ?_
      refine W_next ⟨⟨⟨rfl, by dsimp only; omega, by dsimp only; omega⟩, ?_⟩, by dsimp only; omega⟩
      exact fin _ j hj (by unfold gset; rw [hb, hs1]; rfl)
     ·refine W_brin n1 (by omega) ?_
      rw [lit_tab]
      refine W_idxT n1 (by omega) ?_
      refine W_brin n1 (by omega) ?_
      refine W_putA n1 (by omega) ?_
      refine W_op fun j hj => ?_
      refine W_next ⟨⟨⟨rfl, by dsimp only; omega, by dsimp only; omega⟩, ?_⟩, by dsimp only; omega⟩
      refine fin _ j hj ?_
      unfold gset
      have : (s == -1) = false := by simpa using hs1
      rw [hb, this]; simp
    ·refine W_brin n1 (by omega) ?_
     refine W_putA n1 (by omega) ?_
     refine W_op fun j hj => ?_
     refine W_next ⟨⟨⟨rfl, by dsimp only; omega, by dsimp only; omega⟩, ?_⟩, by dsimp only; omega⟩
     exact fin _ j hj (by unfold gset; rw [hb]; rfl)
   ·refine W_done ?_
    dsimp only
    rw [lit_tab]
    have e2 : (tab fun m => if (m : Int) < n then gset l s m else hits l s m) = tab (gset l s) := tab_congr fun m hm => if_pos (by omega)
    rw [e2]
    refine W_eq (ranges_eq s (gset0 h.ok s)) ?_
    have hrl := (rgs_spec (gset l s) s 17).len
    refine W_appc (by omega) fun o ho => ?_
    refine W_op fun j hj => ?_
    refine W_next ⟨⟨⟨by dsimp only; omega, by dsimp only; omega⟩, ?_, ?_⟩, by dsimp only; omega⟩
    ·dsimp only
     have : j.toNat = k.toNat + 1 := by omega
     rw [ho, hout, this, List.take_add_one, hs]
     simp
    ·dsimp only
     rw [ho, List.length_append]
     omega
  ·dsimp only
   rw [lit_tab]
   exact tab_congr fun m hm => (if_neg (by omega)).symm
 ·have hk : k.toNat = sv.length := by omega
  rw [hk, List.take_length, hfin] at hout
  refine W_done ?_
  dsimp only
  rw [hout]
  refine W_brd (fun q => ?_) (fun q => ?_)
  ·rw [if_pos (by omega)]; exact W_ret rfl
  ·rw [if_neg (by omega)]; exact W_ret rfl
def ordE (a b : EID) : Prop := a.Service < b.Service ∨ (a.Service = b.Service ∧ a.High + 1 < b.Low)
theorem canon_ord (l : List EID) : (canonL l).Pairwise ordE := by
 unfold canonL
 rw [List.pairwise_flatMap]
 refine ⟨fun s _ => ?_, allS_lt.imp fun {a b} hab x hx y hy => ?_⟩
 ·have := rgs_spec (gset l s) s 17
  have h1 := this.srv
  rw [List.pairwise_iff_getElem]
  intro i j hi hj hij
  have := List.pairwise_iff_getElem.1 this.gap i j hi hj hij
  exact .inr ⟨(h1 _ (List.getElem_mem hi)).trans (h1 _ (List.getElem_mem hj)).symm, this⟩
 ·left
  rw [(rgs_spec (gset l a) a 17).srv x hx, (rgs_spec (gset l b) b 17).srv y hy]
  exact hab
theorem canon_ok {l : List EID} (h : ∀ e ∈ l, OKE e) : ∀ e ∈ canonL l, OKE e := by
 intro e he
 obtain ⟨s, hs, he⟩ := List.mem_flatMap.1 he
 have hsp := rgs_spec (gset l s) s 17
 have hb := hsp.bnd e he
 have hsv := hsp.srv e he
 have hs' := (allS_mem s).1 hs
 refine ⟨?_, hb.2.1, by omega, by omega, by omega⟩
 by_cases q : e.Low = 0
 ·have := hsp.mem e he 0 (by omega) (by omega)
  rw [gset0 h s] at this
  cases this
 ·omega
theorem canon_hits {l : List EID} {s : Int} (hs : -1 ≤ s ∧ s ≤ 999) {n : Nat} (hn : n < 17) : hits (canonL l) s n = hits l s n := by
 have cov : ∀ t n, -1 ≤ t ∧ t ≤ 999 → n < 17 → gset l t n = true → ∃ e ∈ canonL l, e.Service = t ∧ e.Low ≤ n ∧ (n : Int) ≤ e.High := by
  intro t n ht hn hg
  have hsp := rgs_spec (gset l t) t 17
  obtain ⟨e, he, q⟩ := hsp.all n hn hg
  exact ⟨e, List.mem_flatMap.2 ⟨t, (allS_mem t).2 ht, he⟩, hsp.srv e he, q⟩
 rw [Bool.eq_iff_iff, hits_iff]
 constructor
 ·rintro ⟨e, he, hsv, q1, q2⟩
  obtain ⟨t, ht, he⟩ := List.mem_flatMap.1 he
  have hsp := rgs_spec (gset l t) t 17
  have hg := hsp.mem e he n q1 q2
  have hst := hsp.srv e he
  unfold gset at hg
  rw [Bool.and_eq_true] at hg
  rw [hst] at hsv
  rcases hsv with rfl | rfl
  ·exact hg.1
  ·obtain ⟨e', he', h1, h2⟩ := hits_iff.1 hg.1
   exact hits_iff.2 ⟨e', he', .inr (by rcases h1 with h1 | h1 <;> exact h1), h2⟩
 ·intro hh
  by_cases ha : hits l (-1) n = true
  ·obtain ⟨e, he, q1, q2⟩ := cov (-1) n (by omega) hn (by unfold gset; rw [ha]; rfl)
   exact ⟨e, he, .inr q1, q2⟩
  ·obtain ⟨e, he, q1, q2⟩ := cov s n hs hn (by unfold gset; rw [hh]; simp [ha])
   exact ⟨e, he, .inl q1, q2⟩
theorem canon_congr {l m : List EID} (h : ∀ s n, -1 ≤ s ∧ s ≤ 999 → n < 17 → hits l s n = hits m s n) : canonL l = canonL m := by
 unfold canonL
 rw [List.flatMap_def, List.flatMap_def]
 refine congrArg List.flatten (List.map_congr_left fun s hs => ?_)
 have hs' := (allS_mem s).1 hs
 refine rgs_congr fun n hn => ?_
 unfold gset
 rw [h s n hs' hn, h (-1) n (by omega) hn]
theorem hits_mem {l m : List EID} (h : ∀ e, e ∈ l ↔ e ∈ m) (s : Int) (n : Nat) : hits l s n = hits m s n := by
 rw [Bool.eq_iff_iff, hits_iff, hits_iff]
 exact ⟨fun ⟨e, he, q⟩ => ⟨e, (h e).1 he, q⟩, fun ⟨e, he, q⟩ => ⟨e, (h e).2 he, q⟩⟩
end Go.Proofs.YtecpknddocikaaaGreatDoor
