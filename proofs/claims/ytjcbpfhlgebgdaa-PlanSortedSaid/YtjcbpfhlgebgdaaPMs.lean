import Derived.Test.YtjcbpfhlgebgdaaPMc
import Derived.Test.YtjcbpfhlgebgdaaPS
import Derived.Test.YtjcbpfhlgebgdaaXGMg
namespace Go.Proofs.Ytjcbpfhlgebgdaa
open Go.X Go.Eng Go.Seq
set_option linter.unusedSimpArgs false
set_option linter.unusedVariables false

/-! LAYER 22: Merge of valid plans; PlanSorted -/

theorem gp_ex (L : List Contact) : ∀ n, n ≤ L.length → ∃ G, GP (L.take n) G
  | 0, _ => ⟨[], by simpa using GP.nil⟩
  | n + 1, hn => by
    obtain ⟨G, h⟩ := gp_ex L n (by omega)
    have hc : L[n]? = some L[n] := List.getElem?_eq_getElem (by omega)
    rw [List.take_add_one, hc]
    exact ⟨_, h.step _⟩

theorem union_ex (l : List Contact) (hv : ValC l) : ∃ F, GoodF l F := by
  obtain ⟨p1, p2⟩ := srt_spec l
  generalize plan_compare.srt l = L at p1 p2
  have hvL : ValC L := fun c hc => hv c (p1.mem_iff.1 hc)
  have ha := asc_start p2
  obtain ⟨G, hG⟩ := gp_ex L L.length (Nat.le_refl _)
  rw [List.take_length] at hG
  have hex : ∀ q : (Int × Int) × List Contact, ∃ o, q ∈ G → JInv q.2 o := fun q => by
    by_cases hq : q ∈ G
    · obtain ⟨o, ho⟩ := join_ex' (hG.pairL ha hvL hq)
      exact ⟨o, fun _ => ho⟩
    · exact ⟨[], fun h => absurd h hq⟩
  obtain ⟨g1, _⟩ := glue hG (G.map fun q => Classical.choose (hex q)) (by simp) fun i q o hi ho => by
    rw [List.getElem?_map, hi] at ho
    simp at ho
    subst ho
    exact (Classical.choose_spec (hex q) (List.mem_of_getElem? hi)).good
  exact ⟨_, g1.congr fun c => p1.mem_iff⟩

theorem srf_ex {F : List Contact} (hok : ∀ c ∈ F, OKC c) : ∃ r, SRF F r := by
  by_cases hap : F.Pairwise apartC
  · by_cases h : F.length ≤ 200
    · exact ⟨_, SRF.of hap hok h⟩
    · exact ⟨_, .inr (.inl ⟨hap, by omega, rfl⟩)⟩
  · exact ⟨_, .inl ⟨hap, rfl⟩⟩

/-- A union is no longer than what it is of. -/
theorem GoodF.len {l F : List Contact} (h : GoodF l F) : F.length ≤ l.length := by
  let key : Contact → Int × Int × Int × Int × Int := fun c => (c.From, c.To, c.Rate, c.Delay, c.Start)
  have hsub : ∀ {A B : List (Int × Int × Int × Int × Int)}, A.Nodup → (∀ x ∈ A, x ∈ B) → A.length ≤ B.length := by
    intro A
    induction A with
    | nil => intro B _ _; simp
    | cons x A ih =>
      intro B hn hs
      obtain ⟨h1, h2⟩ := List.nodup_cons.1 hn
      have hx := hs x (by simp)
      have := ih (B := B.erase x) h2 fun y hy => by
        have hyx : y ≠ x := fun e => h1 (e ▸ hy)
        exact (List.mem_erase_of_ne hyx).2 (hs y (by simp [hy]))
      rw [List.length_erase_of_mem hx] at this
      have := List.length_pos_of_mem hx
      simp; omega
  have hk : (F.map key).Nodup := by
    rw [List.Nodup, List.pairwise_map]
    refine List.Pairwise.imp_of_mem ?_ h.sep
    intro x y hx hy hxy e
    simp only [key, Prod.mk.injEq] at e
    obtain ⟨e1, e2, e3, e4, e5⟩ := e
    have := hxy ⟨e1, e2, e3, e4⟩
    have := h.val x hx
    have := h.val y hy
    omega
  have := hsub hk (B := l.map key) fun k hk' => by
    obtain ⟨c, hc, rfl⟩ := List.mem_map.1 hk'
    obtain ⟨y, hy, hs, h1, h2⟩ := h.src hc
    have e : y.Start = c.Start := by
      rcases Int.lt_or_eq_of_le h1 with hlt | he
      · obtain ⟨z, hz, zs, z1, z2⟩ := (h.cov c (c.Start - 1)).2 ⟨y, hy, hs, by omega, by omega⟩
        have := sep_eq h.sep hz hc zs (by omega) (by have := h.val c hc; omega)
        subst this
        omega
      · exact he
    refine List.mem_map.2 ⟨y, hy, ?_⟩
    simp only [key, Prod.mk.injEq]
    exact ⟨hs.1, hs.2.1, hs.2.2.1, hs.2.2.2, e⟩
  simpa using this

theorem merge_w {a b : List Contact} (ha : Valid a) (hla : a.length ≤ 200) (hb : Valid b) (hlb : b.length ≤ 200) : W (plan_Merge (a, b)) fun r => ∃ F, GoodF (a ++ b) F ∧ SRF F r ∧ ∀ c ∈ F, OKC c := by
  have hok : ∀ c ∈ a ++ b, OKC c := fun c hc => by
    rcases List.mem_append.1 hc with hc | hc
    · exact ha.ok c hc
    · exact hb.ok c hc
  obtain ⟨F, hF⟩ := union_ex (a ++ b) fun c hc => (hok c hc).s.2.1
  have hFo := hF.ok hok
  obtain ⟨r, hr⟩ := srf_ex hFo
  exact ⟨r, plan_Merge_of (.inr (.inr ⟨⟨0, check_w ha hla⟩, ⟨0, check_w hb hlb⟩, F, hF, hr⟩)) fun _ _ => ⟨hok, hla, hlb⟩, F, hF, hr, hFo⟩

theorem SRF.len {F : List Contact} {r : List Contact × Int} (h : SRF F r) : r.1.length ≤ 200 := by
  rcases h with ⟨_, rfl⟩ | ⟨_, _, rfl⟩ | ⟨_, h1, _, h2, _⟩
  · simp
  · simp
  · rw [h2.length_eq]; exact h1

theorem mod_g (x n : Int) (hn : 0 < n) (hn2 : n ≤ 1000000) : W (packhorsekit_Mod (x, n)) fun r => 0 ≤ r ∧ r < n := by
  unfold packhorsekit_Mod
  dsimp only
  refine W_if (fun h => by omega) (fun _ => ?_)
  refine W_remt (by omega) fun c hc => ?_
  have h1 := Int.tmod_lt_of_pos x hn
  have h2 := Int.lt_tmod_of_pos x hn
  rw [← hc] at h1 h2
  refine W_if (fun h => ?_) (fun h => ?_)
  · refine W_op fun d hd => W_ret (by omega)
  · exact W_ret (by omega)

set_option maxHeartbeats 1000000 in
theorem planSorted_w {nums more : List Int} (hnl : nums.length ≤ 9223372036854775807) (hml : more.length ≤ 9223372036854775807) (k : Int) : packhorselaw22_PlanSorted (nums, more, k) = some true := by
  refine W.eq ?_
  unfold packhorselaw22_PlanSorted
  dsimp only
  refine W_call (plan_w hnl (by decide)) fun a ⟨ha, hal⟩ => ?_
  refine W_call (plan_w hml (by decide)) fun b ⟨hb, hbl⟩ => ?_
  have hal' : a.length ≤ 200 := by omega
  have hbl' : b.length ≤ 200 := by omega
  obtain ⟨m, hm⟩ : ∃ m : Nat, m ≤ a.length ∧ (0 < a.length → packhorsekit_Mod (k, (a.length : Int)) = some (m : Int) ∧ m < a.length) := by
    by_cases h0 : 0 < a.length
    · obtain ⟨r, hr, h1, h2⟩ := mod_g k (a.length : Int) (by omega) (by omega)
      refine ⟨r.toNat, by omega, fun _ => ⟨?_, by omega⟩⟩
      rw [hr]; congr 1; omega
    · exact ⟨0, Nat.zero_le _, fun h => absurd h h0⟩
  obtain ⟨hm1, hm2⟩ := hm
  have hrot : (a.drop m ++ a.take m).Perm a := (List.perm_append_comm).trans (by rw [List.take_append_drop])
  have hrl : (a.drop m ++ a.take m).length = a.length := hrot.length_eq
  refine W_loop (fun s => 0 ≤ s.2 ∧ s.2 ≤ (a.length : Int) ∧ s.1 = (a.drop m ++ a.take m).take s.2.toNat) (fun s => a.length - s.2.toNat) ?_ ⟨by simp, by simp, by simp⟩
  rintro ⟨x, i⟩ ⟨i1, i2, i3⟩
  dsimp only at i1 i2 i3 ⊢
  refine W_if (fun hi => ?_) fun hi => ?_
  · obtain ⟨hm3, hm4⟩ := hm2 (by omega)
    refine W_eq hm3 ?_
    refine W_op fun j hj => ?_
    refine W_rem (by omega) (by omega) fun q hq => ?_
    have hq1 : q = if i + m < a.length then i + m else i + m - a.length := by
      rw [hq, hj]
      split
      · exact Int.emod_eq_of_lt (by omega) (by omega)
      · have e1 : (i + (m : Int) - a.length + a.length) % (a.length : Int) = i + m - a.length := by
          rw [Int.add_emod_right]; exact Int.emod_eq_of_lt (by omega) (by omega)
        rw [← e1]; congr 1; omega
    have hq0 : 0 ≤ q ∧ q < a.length := by rw [hq1]; split <;> omega
    refine W_idx (by omega) (by omega) fun c hc => ?_
    have hc' : (a.drop m ++ a.take m)[i.toNat]? = some c := by
      rw [← hc]
      rcases Nat.lt_or_ge i.toNat (a.drop m).length with h | h
      · rw [List.getElem?_append_left h, List.getElem?_drop]
        rw [List.length_drop] at h
        rw [if_pos (by omega)] at hq1
        congr 1; omega
      · rw [List.getElem?_append_right h]
        rw [List.length_drop] at h ⊢
        rw [if_neg (by omega)] at hq1
        rw [List.getElem?_take_of_lt (by omega)]
        congr 1; omega
    refine W_app (by rw [i3]; simp; omega) ?_
    refine W_op fun j' hj' => W_next ⟨⟨by dsimp only; omega, by dsimp only; omega, ?_⟩, by dsimp only; omega⟩
    dsimp only
    rw [show j'.toNat = i.toNat + 1 by omega, List.take_add_one, hc', i3]
    rfl
  · refine W_done ?_
    have hx : x = a.drop m ++ a.take m := by rw [i3, List.take_of_length_le (by rw [hrl]; omega)]
    have hxp : x.Perm a := hx ▸ hrot
    refine W_call (sort_s x) ?_
    rintro ⟨y, e⟩ hs
    have hy : y = a ∧ e = 0 := by
      have hxl := hxp.length_eq
      rcases hs with ⟨h1, h2⟩ | ⟨h1, h2, h3⟩ | ⟨h1, h2, h3, h4⟩ | ⟨h1, h2, h3, h4, h5, h6⟩
      · omega
      · exact absurd (fun c hc => ha.ok c (hxp.mem_iff.1 hc)) h2
      · exact absurd ((apart_perm hxp).2 ha.ap) h3
      · exact ⟨valid_perm h4 ha (h5.trans hxp), h6⟩
    obtain ⟨rfl, rfl⟩ := hy
    dsimp only
    refine W_eq (own_w hal') ?_
    refine W_eq (own_w hbl') ?_
    refine W_call (merge_w ha hal' hb hbl') ?_
    rintro ⟨p, f⟩ ⟨F, f1, f2, _⟩
    dsimp only
    refine W_eq (own_w hbl') ?_
    refine W_eq (own_w hal') ?_
    refine W_call (merge_w hb hbl' ha hal') ?_
    rintro ⟨q, g⟩ ⟨F', g1, g2, _⟩
    have g3 := g1.congr (l' := y ++ b) fun c => by simp [or_comm]
    have hpq := SRF.det (f1.perm g3) f2 g2
    cases hpq
    dsimp only
    refine W_if (fun _ => ?_) fun h => absurd rfl h
    refine W_eq (same_w y (by omega)) ?_
    refine W_brT ?_
    refine W_if (fun _ => ?_) fun h => absurd rfl h
    have := f2.len
    refine W_eq (same_w p (by dsimp only at this; omega)) ?_
    refine W_brT ?_
    exact W_eq awake_w (W_ret rfl)
end Go.Proofs.Ytjcbpfhlgebgdaa
