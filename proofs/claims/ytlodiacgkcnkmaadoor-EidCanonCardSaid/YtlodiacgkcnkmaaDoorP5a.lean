import Derived.Test.YtlodiacgkcnkmaaDoorXL
import Derived.Test.YtlodiacgkcnkmaaDoorXGCan
set_option linter.unusedSimpArgs false
set_option linter.unusedVariables false
namespace Go.Proofs.YtlodiacgkcnkmaaDoor
open Go.X Go.Eng
structure OKE (e : EID) : Prop where
  lo : 1 ≤ e.Low
  lh : e.Low ≤ e.High
  hi : e.High ≤ 16
  s1 : -1 ≤ e.Service
  s2 : e.Service ≤ 999
structure OKP (l : List EID) : Prop where
  len : l.length ≤ 20
  ok : ∀ e ∈ l, OKE e
theorem mod_w (x : Int) : W (packhorsekit_Mod (x, 1048576)) fun r => 0 ≤ r ∧ r < 1048576 := by
  unfold packhorsekit_Mod
  dsimp only
  refine W_brd (fun h => absurd h (by decide)) (fun _ => ?_)
  refine W_remt (by decide) fun c hc => ?_
  have h1 := Int.tmod_lt_of_pos x (b := 1048576) (by decide)
  have h2 := Int.lt_tmod_of_pos x (b := 1048576) (by decide)
  rw [← hc] at h1 h2
  (first | refine W_op fun _ _ => ?_ | refine W_if ?_ ?_ <;> intro _ <;> try (exfalso; omega))
  · (first | refine W_op fun _ _ => ?_ | refine W_if ?_ ?_ <;> intro _ <;> try (exfalso; omega))
    exact W_ret (by omega)
  · exact W_ret (by omega)
theorem W_appc {α β : Type} {l m : List α} {n : Nat} {f : List α → Option β} {Q : β → Prop} (h : (l.length + m.length) * n ≤ 140737488355328) (k : ∀ c, c = l ++ m → W (f c) Q) : W ((app n l m).bind f) Q := W_app h (k _ rfl)
theorem made_w (nums : List Int) : W (packhorselaw05_made nums) fun l => l.length ≤ 12 ∧ ∀ e ∈ l, OKE e := by
  unfold packhorselaw05_made
  refine W_loop (fun s => (0 ≤ s.2 ∧ s.2 ≤ 12 ∧ (s.1.length : Int) = s.2) ∧ ∀ e ∈ s.1, OKE e) (fun s => 12 - s.2.toNat) ?_ ⟨by simp, by simp⟩
  rintro ⟨out, i⟩ ⟨⟨i1, i2, i3⟩, i4⟩
  dsimp only at i1 i2 i3 i4 ⊢
  refine W_if (fun h1 => ?_) (fun h1 => ?_)
  · refine W_if (fun h2 => ?_) (fun h2 => ?_)
    · refine W_idx i1 h1 fun x hx => ?_
      refine W_call (mod_w x) fun r hr => ?_
      obtain ⟨r1, r2⟩ := hr
      refine W_rem r1 (by decide) fun a ha => ?_
      have a1 : 0 ≤ a ∧ a < 16 := by rw [ha]; exact ⟨Int.emod_nonneg _ (by decide), Int.emod_lt_of_pos _ (by decide)⟩
      refine W_op fun b hb => ?_
      refine W_quo r1 (by omega) (by decide) fun c hc => ?_
      have c1 : 0 ≤ c := by rw [hc]; exact Int.ediv_nonneg r1 (by decide)
      refine W_rem c1 (by decide) fun d hd => ?_
      have d1 : 0 ≤ d ∧ d < 4 := by rw [hd]; exact ⟨Int.emod_nonneg _ (by decide), Int.emod_lt_of_pos _ (by decide)⟩
      refine W_quo r1 (by omega) (by decide) fun f hf => ?_
      have f1 : 0 ≤ f := by rw [hf]; exact Int.ediv_nonneg r1 (by decide)
      refine W_rem f1 (by decide) fun g hg => ?_
      have g1 : 0 ≤ g ∧ g < 2 := by rw [hg]; exact ⟨Int.emod_nonneg _ (by decide), Int.emod_lt_of_pos _ (by decide)⟩
      have m1 : 0 ≤ d * g := Int.mul_nonneg d1.1 g1.1
      have m2 : d * g ≤ 3 * 1 := Int.mul_le_mul (by omega) (by omega) g1.1 (by omega)
      refine W_mul (by omega) (by omega) fun k hk => ?_
      refine W_op fun n hn => ?_
      refine W_quo r1 (by omega) (by decide) fun p hp => ?_
      have p1 : 0 ≤ p := by rw [hp]; exact Int.ediv_nonneg r1 (by decide)
      refine W_rem p1 (by decide) fun q hq => ?_
      have q1 : 0 ≤ q ∧ q < 5 := by rw [hq]; exact ⟨Int.emod_nonneg _ (by decide), Int.emod_lt_of_pos _ (by decide)⟩
      refine W_op fun t ht => ?_
      unfold packhorselaw05_ad
      dsimp only
      refine W_some ?_
      refine W_appc (by simp; omega) fun o ho => ?_
      refine W_op fun j hj => ?_
      refine W_next ⟨⟨⟨by omega, by omega, by rw [ho]; simp; omega⟩, ?_⟩, by dsimp only; omega⟩
      intro e he
      rw [ho, List.mem_append, List.mem_singleton] at he
      rcases he with he | rfl
      · exact i4 e he
      · exact ⟨by dsimp only; omega, by dsimp only; omega, by dsimp only; omega, by dsimp only; omega, by dsimp only; omega⟩
    · exact W_done (W_ret ⟨by omega, i4⟩)
  · exact W_done (W_ret ⟨by omega, i4⟩)
theorem check_ok {e : EID} (h : OKE e) : eid_Check e = some 0 := by
  obtain ⟨h1, h2, h3, h4, h5⟩ := h
  refine W.eq ?_
  unfold eid_Check
  iterate 5 (refine W_brd (fun h => absurd h (by omega)) fun _ => ?_)
  exact W_ret rfl
theorem pattern_ok {l : List EID} (h : OKP l) : eid_pattern l = some 0 := by
  obtain ⟨hlen, hok⟩ := h
  refine W.eq ?_
  unfold eid_pattern
  refine W_brd (fun h => absurd h (by omega)) fun _ => ?_
  refine W_loop (fun i => 0 ≤ i ∧ i ≤ (l.length : Int)) (fun i => l.length - i.toNat) ?_ ⟨by omega, by omega⟩
  rintro i ⟨i1, i2⟩
  refine W_if (fun h1 => ?_) (fun h1 => ?_)
  · refine W_idx i1 h1 fun x hx => ?_
    refine W_eq (check_ok (hok x (List.mem_of_getElem? hx))) ?_
    refine W_brne (fun h => absurd rfl h) fun _ => ?_
    refine W_op fun j hj => ?_
    exact W_next ⟨⟨by omega, by omega⟩, by omega⟩
  · exact W_done (W_ret rfl)
def hits (l : List EID) (s : Int) (n : Nat) : Bool := l.any fun e => (e.Service == s || e.Service == -1) && (decide (e.Low ≤ n) && decide ((n : Int) ≤ e.High))
def tab (f : Nat → Bool) : List Bool := (List.range 17).map f
theorem tab_len (f : Nat → Bool) : (tab f).length = 17 := by simp [tab]
theorem tab_get (f : Nat → Bool) (n : Nat) (h : n < 17) : (tab f)[n]? = some (f n) := by simp [tab, h]
theorem tab_getD (f : Nat → Bool) (n : Nat) (h : n < 17) (d : Bool) : (tab f).getD n d = f n := by rw [List.getD_eq_getElem?_getD, tab_get f n h]; rfl
theorem lit_tab (f : Nat → Bool) : lit_a17_bool (tab f) = tab f := lit_a17_bool_eq (tab_len f)
theorem tab_congr {f g : Nat → Bool} (h : ∀ n, n < 17 → f n = g n) : tab f = tab g := by
  unfold tab
  refine List.map_congr_left fun n hn => h n (by simpa using hn)
theorem tab_set (f : Nat → Bool) (i : Nat) (b : Bool) (h : i < 17) : (tab f).set i b = tab fun n => if n = i then b else f n := by
  refine List.ext_getElem? fun n => ?_
  by_cases hn : n < 17
  · rw [tab_get _ n hn]
    by_cases e : n = i
    · subst e; rw [List.getElem?_set_self (by rw [tab_len]; exact h)]; simp
    · rw [List.getElem?_set_ne (Ne.symm e), tab_get f n hn, if_neg e]
  · rw [List.getElem?_eq_none (by simp [tab_len]; omega), List.getElem?_eq_none (by rw [tab_len]; omega)]
theorem W_putA {β : Type} {f : Nat → Bool} {i : Int} {b : Bool} {k : List Bool → Option β} {Q : β → Prop} (h0 : 0 ≤ i) (h1 : i < 17) (hk : W (k (tab fun n => if n = i.toNat then b else f n)) Q) : W ((putA (tab f) i b).bind k) Q := by
  have : putA (tab f) i b = some (tab fun n => if n = i.toNat then b else f n) := by
    unfold putA
    rw [if_pos ⟨h0, by rw [tab_len]; omega⟩, tab_set f _ _ (by omega)]
  exact W_eq this hk
theorem W_idxT {β : Type} {f : Nat → Bool} {i : Int} {k : Bool → Option β} {Q : β → Prop} (h0 : 0 ≤ i) (h1 : i < 17) (hk : W (k (f i.toNat)) Q) : W ((idx (tab f) i).bind k) Q := by
  refine W_idx h0 (by rw [tab_len]; omega) fun x hx => ?_
  rw [tab_get f _ (by omega)] at hx
  cases hx
  exact hk
theorem fill_w {lo hi : Int} (h0 : 0 ≤ lo) (h1 : lo ≤ hi + 1) (h2 : hi ≤ 16) (f : Nat → Bool) :
    iter (σ := Int × (List Bool)) (ρ := List Bool) (fun (n_6, x_7) =>
          br (decide (n_6 ≤ hi))
            (br (inB n_6 17)
              ((putA (lit_a17_bool x_7) n_6 true).bind fun x_8 =>
              (addI .i64 n_6 (1 : Int)).bind fun x_9 =>
              some (.next (x_9, (lit_a17_bool x_8))))
              (none))
            (some (.done (lit_a17_bool x_7)))) (lo, tab f) = some (tab fun n => f n || (decide (lo ≤ n) && decide ((n : Int) ≤ hi))) := by
  refine W.eq ?_
  refine W_iter (fun s => (lo ≤ s.1 ∧ s.1 ≤ hi + 1) ∧ s.2 = tab fun n => f n || (decide (lo ≤ n) && decide ((n : Int) < s.1))) (fun s => 17 - s.1.toNat) ?_ ⟨⟨by dsimp only; omega, h1⟩, ?_⟩
  · rintro ⟨i, M⟩ ⟨⟨i1, i2⟩, hM⟩
    dsimp only at i1 i2 hM ⊢
    rw [hM, lit_tab]
    refine W_if (fun h3 => ?_) (fun h3 => ?_)
    · refine W_brin (by omega) (by omega) ?_
      refine W_putA (by omega) (by omega) ?_
      refine W_op fun j hj => ?_
      rw [lit_tab]
      refine W_next ⟨⟨⟨by dsimp only; omega, by dsimp only; omega⟩, ?_⟩, by dsimp only; omega⟩
      dsimp only
      refine tab_congr fun n hn => ?_
      by_cases e : n = i.toNat
      · subst e
        rw [if_pos rfl]
        have : decide (lo ≤ (i.toNat : Int)) = true := by simp; omega
        have q : decide ((i.toNat : Int) < j) = true := by simp; omega
        rw [this, q]; simp
      · rw [if_neg e]
        have : decide ((n : Int) < j) = decide ((n : Int) < i) := by
          rw [decide_eq_decide]; omega
        rw [this]
    · refine W_done ?_
      refine tab_congr fun n hn => ?_
      have : decide ((n : Int) < i) = decide ((n : Int) ≤ hi) := by
        rw [decide_eq_decide]; omega
      rw [this]
  · refine tab_congr fun n hn => ?_
    have : (decide (lo ≤ (n : Int)) && decide ((n : Int) < lo)) = false := by
      rw [Bool.and_eq_false_iff]; simp; omega
    rw [this]; simp
theorem matched_eq {l : List EID} (h : ∀ e ∈ l, OKE e) (hl : l.length ≤ 1000) (s : Int) : eid_matched (l, s) = some (tab (hits l s)) := by
  refine W.eq ?_
  unfold eid_matched
  dsimp only
  refine W_loop (fun st => (0 ≤ st.1 ∧ st.1 ≤ (l.length : Int)) ∧ st.2 = tab (hits (l.take st.1.toNat) s)) (fun st => l.length - st.1.toNat) ?_ ⟨⟨by dsimp only; omega, by dsimp only; omega⟩, rfl⟩
  rintro ⟨i, M⟩ ⟨⟨i1, i2⟩, hM⟩
  dsimp only at i1 i2 hM ⊢
  subst hM
  rw [lit_tab]
  refine W_if (fun h1 => ?_) (fun h1 => ?_)
  · refine W_idx i1 h1 fun e he => ?_
    obtain ⟨o1, o2, o3, o4, o5⟩ := h e (List.mem_of_getElem? he)
    have hstep : ∀ j : Int, j = i + 1 → ∀ n, hits (l.take j.toNat) s n = (hits (l.take i.toNat) s n || ((e.Service == s || e.Service == -1) && (decide (e.Low ≤ n) && decide ((n : Int) ≤ e.High)))) := by
      intro j hj n
      have : j.toNat = i.toNat + 1 := by omega
      rw [this, List.take_add_one, he]
      unfold hits
      rw [List.any_append]
      simp
    refine W_if (fun h2 => ?_) (fun h2 => ?_)
    · refine W_eq (fill_w (by omega) (by omega) (by omega) _) ?_
      refine W_op fun j hj => ?_
      rw [lit_tab]
      refine W_next ⟨⟨⟨by dsimp only; omega, by dsimp only; omega⟩, ?_⟩, by dsimp only; omega⟩
      dsimp only
      refine tab_congr fun n hn => ?_
      rw [hstep j hj n, h2]; simp
    · refine W_if (fun h3 => ?_) (fun h3 => ?_)
      · refine W_eq (fill_w (by omega) (by omega) (by omega) _) ?_
        refine W_op fun j hj => ?_
        rw [lit_tab]
        refine W_next ⟨⟨⟨by dsimp only; omega, by dsimp only; omega⟩, ?_⟩, by dsimp only; omega⟩
        dsimp only
        refine tab_congr fun n hn => ?_
        rw [hstep j hj n, h3]; simp
      · refine W_op fun j hj => ?_
        refine W_next ⟨⟨⟨by dsimp only; omega, by dsimp only; omega⟩, ?_⟩, by dsimp only; omega⟩
        dsimp only
        refine tab_congr fun n hn => ?_
        rw [hstep j hj n]
        have e1 : (e.Service == s) = false := by simpa using h2
        have e2 : (e.Service == -1) = false := by simpa using h3
        rw [e1, e2]; simp
  · have : i.toNat = l.length := by omega
    rw [this, List.take_length]
    refine W_done ?_
    dsimp only
    rw [lit_tab]
    exact W_ret rfl
def rgs (f : Nat → Bool) (s : Int) : Nat → List EID
  | 0 => []
  | k + 1 => if f k = true then (if 0 < k ∧ f (k - 1) = true then (rgs f s k).set ((rgs f s k).length - 1) ⟨((rgs f s k).getD ((rgs f s k).length - 1) default).Low, k, s⟩ else rgs f s k ++ [⟨k, k, s⟩]) else rgs f s k
theorem rgs_congr {f g : Nat → Bool} {s : Int} : ∀ {k : Nat}, (∀ n, n < k → f n = g n) → rgs f s k = rgs g s k
  | 0, _ => rfl
  | k + 1, h => by
    have ih := rgs_congr (s := s) (k := k) fun n hn => h n (by omega)
    have h1 := h k (by omega)
    by_cases hk : 0 < k
    · have h2 := h (k - 1) (by omega)
      simp only [rgs, ih, h1, h2]
    · have : ¬ (0 < k ∧ f (k - 1) = true) := fun h => hk h.1
      have q : ¬ (0 < k ∧ g (k - 1) = true) := fun h => hk h.1
      simp only [rgs, ih, h1, if_neg this, if_neg q]
structure Rgs (f : Nat → Bool) (s : Int) (k : Nat) (l : List EID) : Prop where
  srv : ∀ e ∈ l, e.Service = s
  bnd : ∀ e ∈ l, 0 ≤ e.Low ∧ e.Low ≤ e.High ∧ e.High < k
  mem : ∀ e ∈ l, ∀ n : Nat, e.Low ≤ n → (n : Int) ≤ e.High → f n = true
  all : ∀ n : Nat, n < k → f n = true → ∃ e ∈ l, e.Low ≤ n ∧ (n : Int) ≤ e.High
  gap : l.Pairwise fun a b => a.High + 1 < b.Low
  last : 0 < k → f (k - 1) = true → ∃ (h : 0 < l.length), (l[l.length - 1]'(by omega)).High = (k : Int) - 1
  len : l.length ≤ k
theorem rgs_spec (f : Nat → Bool) (s : Int) : ∀ k, Rgs f s k (rgs f s k)
  | 0 => ⟨by simp [rgs], by simp [rgs], by simp [rgs], by simp, by simp [rgs], by simp, by simp [rgs]⟩
  | k + 1 => by
    have ih := rgs_spec f s k
    generalize hr : rgs f s k = r at ih
    by_cases hk : f k = true
    · by_cases hp : 0 < k ∧ f (k - 1) = true
      · obtain ⟨hlen, hlast⟩ := ih.last hp.1 hp.2
        have hset : rgs f s (k + 1) = r.set (r.length - 1) ⟨(r[r.length - 1]'(by omega)).Low, k, s⟩ := by
          simp only [rgs, hr, hk, hp, if_true, and_self]
          congr 2
          rw [List.getD_eq_getElem?_getD, List.getElem?_eq_getElem (by omega)]
          rfl
        rw [hset]
        have hmem : ∀ e ∈ r.set (r.length - 1) ⟨(r[r.length - 1]'(by omega)).Low, k, s⟩, (e ∈ r) ∨ e = ⟨(r[r.length - 1]'(by omega)).Low, k, s⟩ := fun e he => List.mem_or_eq_of_mem_set he
        have hbl := ih.bnd _ (List.getElem_mem (l := r) (n := r.length - 1) (by omega))
        refine ⟨fun e he => ?_, fun e he => ?_, fun e he n h1 h2 => ?_, fun n hn hf => ?_, ?_, fun _ _ => ⟨by simpa using hlen, ?_⟩, ?_⟩
        · rcases hmem e he with h | h
          · exact ih.srv e h
          · rw [h]
        · rcases hmem e he with h | h
          · have := ih.bnd e h; omega
          · rw [h]; dsimp only; omega
        · rcases hmem e he with h | h
          · exact ih.mem e h n h1 h2
          · rw [h] at h1 h2
            dsimp only at h1 h2
            by_cases e' : n = k
            · rw [e']; exact hk
            · exact ih.mem _ (List.getElem_mem (l := r) (n := r.length - 1) (by omega)) n h1 (by rw [hlast]; omega)
        · by_cases e' : n = k
          · refine ⟨⟨(r[r.length - 1]'(by omega)).Low, k, s⟩, List.mem_set (by omega) _, ?_, ?_⟩
            · dsimp only; omega
            · dsimp only; omega
          · obtain ⟨e, he, q1, q2⟩ := ih.all n (by omega) hf
            obtain ⟨j, hj, rfl⟩ := List.mem_iff_getElem.1 he
            by_cases ej : j = r.length - 1
            · subst ej
              refine ⟨⟨(r[r.length - 1]'(by omega)).Low, k, s⟩, List.mem_set (by omega) _, ?_, ?_⟩
              · exact q1
              · dsimp only; omega
            · refine ⟨r[j], ?_, q1, q2⟩
              rw [List.mem_iff_getElem]
              exact ⟨j, by simpa using hj, by rw [List.getElem_set_ne (Ne.symm ej)]⟩
        · have hg := ih.gap
          rw [List.pairwise_iff_getElem] at hg ⊢
          intro i j hi hj hij
          rw [List.length_set] at hi hj
          rw [List.getElem_set_ne (by omega)]
          by_cases ej : j = r.length - 1
          · subst ej
            rw [List.getElem_set_self]
            exact hg i (r.length - 1) hi hj hij
          · rw [List.getElem_set_ne (Ne.symm ej)]
            exact hg i j hi hj hij
        · have : (r.set (r.length - 1) ⟨(r[r.length - 1]'(by omega)).Low, k, s⟩).length - 1 = r.length - 1 := by simp
          rw [List.getElem_of_eq rfl]
          simp only [List.length_set, List.getElem_set_self]
          omega
        · have := ih.len
          simp; omega
      · have hset : rgs f s (k + 1) = r ++ [⟨k, k, s⟩] := by
          simp only [rgs, hr, hk, if_true, if_neg hp]
        rw [hset]
        refine ⟨fun e he => ?_, fun e he => ?_, fun e he n h1 h2 => ?_, fun n hn hf => ?_, ?_, fun _ _ => ⟨by simp, ?_⟩, ?_⟩
        · rw [List.mem_append, List.mem_singleton] at he
          rcases he with h | h
          · exact ih.srv e h
          · rw [h]
        · rw [List.mem_append, List.mem_singleton] at he
          rcases he with h | h
          · have := ih.bnd e h; omega
          · rw [h]; dsimp only; omega
        · rw [List.mem_append, List.mem_singleton] at he
          rcases he with h | h
          · exact ih.mem e h n h1 h2
          · rw [h] at h1 h2
            dsimp only at h1 h2
            have : n = k := by omega
            rw [this]; exact hk
        · by_cases e' : n = k
          · exact ⟨⟨k, k, s⟩, by simp, by dsimp only; omega, by dsimp only; omega⟩
          · obtain ⟨e, he, q⟩ := ih.all n (by omega) hf
            exact ⟨e, by simp [he], q⟩
        · rw [List.pairwise_append]
          refine ⟨ih.gap, by simp, fun a ha b hb => ?_⟩
          rw [List.mem_singleton] at hb
          rw [hb]
          dsimp only
          have hb := ih.bnd a ha
          by_cases q : a.High + 1 = k
          · exfalso
            apply hp
            refine ⟨by omega, ih.mem a ha (k - 1) (by omega) (by omega)⟩
          · omega
        · simp
        · have := ih.len
          simp; omega
    · have hset : rgs f s (k + 1) = r := by simp only [rgs, hr, if_neg hk]
      rw [hset]
      refine ⟨ih.srv, fun e he => ?_, ih.mem, fun n hn hf => ?_, ih.gap, fun _ h => absurd h hk, ?_⟩
      · have := ih.bnd e he; omega
      · by_cases e' : n = k
        · rw [e'] at hf; exact absurd hf hk
        · exact ih.all n (by omega) hf
      · have := ih.len
        omega
theorem rgs_none {f : Nat → Bool} {s : Int} {k : Nat} (h : ∀ n, n < k → f n = false) : rgs f s k = [] := by
  have hs := rgs_spec f s k
  cases hr : rgs f s k with
  | nil => rfl
  | cons e t =>
    rw [hr] at hs
    have hb := hs.bnd e (by simp)
    have := hs.mem e (by simp) e.Low.toNat (by omega) (by omega)
    rw [h _ (by omega)] at this
    cases this
theorem ranges_eq {f : Nat → Bool} (s : Int) (h0 : f 0 = false) : eid_nodes_ranges (tab f, s) = some (rgs f s 17) := by
  refine W.eq ?_
  unfold eid_nodes_ranges
  dsimp only
  refine W_br (fun h => ?_) (fun _ => ?_)
  · refine W_ret (rgs_none fun n hn => ?_).symm
    simp only [Bool.and_eq_true, beq_iff_eq] at h
    simp only [tab_getD f _ (by omega : 0 < 17), tab_getD f _ (by omega : 1 < 17), tab_getD f _ (by omega : 2 < 17), tab_getD f _ (by omega : 3 < 17), tab_getD f _ (by omega : 4 < 17), tab_getD f _ (by omega : 5 < 17), tab_getD f _ (by omega : 6 < 17), tab_getD f _ (by omega : 7 < 17), tab_getD f _ (by omega : 8 < 17), tab_getD f _ (by omega : 9 < 17), tab_getD f _ (by omega : 10 < 17), tab_getD f _ (by omega : 11 < 17), tab_getD f _ (by omega : 12 < 17), tab_getD f _ (by omega : 13 < 17), tab_getD f _ (by omega : 14 < 17), tab_getD f _ (by omega : 15 < 17), tab_getD f _ (by omega : 16 < 17)] at h
    obtain ⟨a0, a1, a2, a3, a4, a5, a6, a7, a8, a9, a10, a11, a12, a13, a14, a15, a16⟩ := h
    rcases (by omega : n = 0 ∨ n = 1 ∨ n = 2 ∨ n = 3 ∨ n = 4 ∨ n = 5 ∨ n = 6 ∨ n = 7 ∨ n = 8 ∨ n = 9 ∨ n = 10 ∨ n = 11 ∨ n = 12 ∨ n = 13 ∨ n = 14 ∨ n = 15 ∨ n = 16) with rfl | rfl | rfl | rfl | rfl | rfl | rfl | rfl | rfl | rfl | rfl | rfl | rfl | rfl | rfl | rfl | rfl <;> assumption
  · refine W_loop (fun st => (0 ≤ st.2 ∧ st.2 ≤ 17) ∧ st.1 = rgs f s st.2.toNat) (fun st => 17 - st.2.toNat) ?_ ⟨⟨by dsimp only; omega, by dsimp only; omega⟩, rfl⟩
    rintro ⟨out, i⟩ ⟨⟨i1, i2⟩, hO⟩
    dsimp only at i1 i2 hO ⊢
    rw [lit_tab]
    have hsp := rgs_spec f s i.toNat
    rw [← hO] at hsp
    have hl := hsp.len
    refine W_if (fun h1 => ?_) (fun h1 => ?_)
    · refine W_brin i1 (by omega) ?_
      refine W_idxT i1 (by omega) ?_
      refine W_br (fun hf => ?_) (fun hf => ?_)
      · have hi0 : 0 < i := by
          by_cases e : i = 0
          · rw [e] at hf
            have : f 0 = true := hf
            rw [h0] at this; cases this
          · omega
        refine W_op fun j hj => ?_
        refine W_brin (by omega) (by omega) ?_
        refine W_idxT (by omega) (by omega) ?_
        have hj1 : j.toNat = i.toNat - 1 := by omega
        refine W_br (fun hg => ?_) (fun hg => ?_)
        · rw [hj1] at hg
          obtain ⟨hpos, hlast⟩ := hsp.last (by omega) hg
          refine W_op fun q hq => ?_
          refine W_brin (by omega) (by omega) ?_
          refine W_idx (by omega) (by omega) fun x hx => ?_
          refine W_op fun p hp => ?_
          refine W_next ⟨⟨⟨by dsimp only; omega, by dsimp only; omega⟩, ?_⟩, by dsimp only; omega⟩
          dsimp only
          have e1 : p.toNat = i.toNat + 1 := by omega
          have e2 : q.toNat = out.length - 1 := by omega
          rw [e1]
          have hpp : 0 < i.toNat ∧ f (i.toNat - 1) = true := ⟨by omega, hg⟩
          simp only [rgs, hf, if_true, ← hO, if_pos hpp, setI, e2]
          rw [e2] at hx
          congr 1
          have hs := hsp.srv x (List.mem_of_getElem? hx)
          rw [List.getD_eq_getElem?_getD, hx, hs]
          simp only [Option.getD_some]
          congr 1
          omega
        · rw [hj1] at hg
          have hpp : ¬ (0 < i.toNat ∧ f (i.toNat - 1) = true) := fun h => by rw [hg] at h; cases h.2
          rw [hf]
          refine W_brT ?_
          refine W_appc (by simp; omega) fun o ho => ?_
          refine W_op fun p hp => ?_
          refine W_next ⟨⟨⟨by dsimp only; omega, by dsimp only; omega⟩, ?_⟩, by dsimp only; omega⟩
          dsimp only
          have e1 : p.toNat = i.toNat + 1 := by omega
          have e2 : i = (i.toNat : Int) := by omega
          rw [e1, ho]
          simp only [rgs, hf, if_true, ← hO, if_neg hpp]
          rw [← e2]
      · rw [hf]
        refine W_brF ?_
        refine W_op fun p hp => ?_
        refine W_next ⟨⟨⟨by dsimp only; omega, by dsimp only; omega⟩, ?_⟩, by dsimp only; omega⟩
        dsimp only
        have e1 : p.toNat = i.toNat + 1 := by omega
        rw [e1]
        simp only [rgs, hf, ← hO]
        rfl
    · refine W_done (W_ret ?_)
      have : i.toNat = 17 := by omega
      rw [hO, this]
end Go.Proofs.YtlodiacgkcnkmaaDoor
