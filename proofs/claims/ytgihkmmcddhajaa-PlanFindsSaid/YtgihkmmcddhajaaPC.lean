import Derived.Test.YtgihkmmcddhajaaPA
namespace Go.Proofs.Ytgihkmmcddhajaa
open Go.X Go.Eng
set_option linter.unusedSimpArgs false
set_option linter.unusedVariables false

/-! LAYER 22: sorting; what is cut -/

theorem srt_spec (d : List Contact) : (plan_compare.srt d).Perm d ∧ (plan_compare.srt d).Pairwise (fun a b => ¬ cmpC b a < 0) := by
  have h := Go.Sort.pdq_sorts (Go.Proofs.ltOf cmpC) swo d.toArray 0 d.toArray.size (Lib.bitLen d.toArray.size) true true (Nat.zero_le _) (Nat.le_refl _) (Or.inl rfl)
  obtain ⟨⟨h1, _, h2⟩, h3⟩ := h
  rw [List.size_toArray] at h2 h3
  have h1 : (Go.Sort.pdq (Go.Proofs.ltOf cmpC) d.toArray 0 d.length (Lib.bitLen d.length) true true).size = d.length := by simpa using h1
  unfold plan_compare.srt
  generalize Go.Sort.pdq (Go.Proofs.ltOf cmpC) d.toArray 0 d.length (Lib.bitLen d.length) true true = D at h1 h2 h3 ⊢
  constructor
  · have e1 : D.extract 0 d.length = D := by rw [← h1]; exact Array.extract_size
    have e2 : d.toArray.extract 0 d.length = d.toArray := by
      have : d.length = d.toArray.size := by simp
      rw [this]; exact Array.extract_size
    rw [e1, e2] at h2
    simpa using h2
  · rw [List.pairwise_iff_getElem]
    intro i j hi hj hij
    have hj' : j < D.size := by simpa using hj
    have := h3 i j (Nat.zero_le _) hij (by omega)
    unfold Go.Proofs.ltOf at this
    rw [decide_eq_false_iff_not] at this
    have hi' : i < D.size := by omega
    rw [getElem!_pos D j hj', getElem!_pos D i hi'] at this
    simpa using this

theorem apartC_symm {a b : Contact} (h : apartC a b) : apartC b a := fun h1 h2 => (h h1.symm h2.symm).symm

theorem srt_valid {d : List Contact} (h1 : ∀ c ∈ d, OKC c) (h2 : d.Pairwise apartC) : Valid (plan_compare.srt d) := by
  obtain ⟨p1, p2⟩ := srt_spec d
  have hok : ∀ c ∈ plan_compare.srt d, OKC c := fun c hc => h1 c (p1.mem_iff.1 hc)
  have hap : (plan_compare.srt d).Pairwise apartC := (p1.pairwise_iff (R := apartC) (fun h => apartC_symm h)).2 h2
  refine ⟨hok, ?_, hap⟩
  rw [List.pairwise_iff_getElem] at *
  intro i j hi hj hij
  have q1 := p2 i j hi hj hij
  have q2 := hap i j hi hj hij
  have o1 := (hok _ (List.getElem_mem hi)).s
  have o2 := (hok _ (List.getElem_mem hj)).s
  generalize (plan_compare.srt d)[i] = a at *
  generalize (plan_compare.srt d)[j] = b at *
  rw [cmpC_lt] at *
  by_cases e : a.From = b.From ∧ a.To = b.To
  · have := q2 e.1 e.2
    omega
  · omega

def cutC (now : Int) (c : Contact) : Contact := ⟨c.From, c.To, max c.Start now, c.End, c.Rate, c.Delay⟩
def cutL (now : Int) (l : List Contact) : List Contact := (l.filter (fun c => decide (now < c.End))).map (cutC now)

theorem cutL_ok {l : List Contact} {now : Int} (h : Valid l) (hn : 0 ≤ now ∧ now ≤ 1099511627776) : (∀ c ∈ cutL now l, OKC c) ∧ (cutL now l).Pairwise apartC := by
  constructor
  · intro c hc
    obtain ⟨d, hd, rfl⟩ := List.mem_map.1 hc
    obtain ⟨h1, h2⟩ := List.mem_filter.1 hd
    obtain ⟨q1, q2, q3, q4, q5, q6⟩ := h.ok d h1
    have : now < d.End := by simpa using h2
    exact ⟨q1, q2, q3, by simp only [cutC]; omega, q5, q6⟩
  · unfold cutL
    rw [List.pairwise_map]
    refine (h.ap.filter _).imp fun {a b} hab h1 h2 => ?_
    have := hab h1 h2
    simp only [cutC]
    omega

theorem cut_w {l : List Contact} {now : Int} (h : Valid l) (hl : l.length ≤ 200) (hn : 0 ≤ now ∧ now ≤ 1099511627776) : plan_Cut (l, now) = some (plan_compare.srt (cutL now l), 0) := by
  refine W.eq ?_
  unfold plan_Cut
  dsimp only
  refine W_eq (asks_w h hl hn (by simp) (by simp)) ?_
  refine W_brne (fun h => absurd rfl h) fun _ => ?_
  refine W_loop (fun s => 0 ≤ s.2 ∧ s.2 ≤ (l.length : Int) ∧ s.1 = cutL now (l.take s.2.toNat)) (fun s => l.length - s.2.toNat) ?_ ⟨by simp, by simp, rfl⟩
  rintro ⟨out, i⟩ ⟨i1, i2, i3⟩
  dsimp only at i1 i2 i3 ⊢
  have hle : out.length ≤ 200 := by
    rw [i3]; unfold cutL
    rw [List.length_map]
    exact Nat.le_trans (List.length_filter_le _ _) (by simp; omega)
  (first | refine W_op fun _ _ => ?_ | refine W_if ?_ ?_ <;> intro _ <;> try (exfalso; omega))
  · refine W_idx (by omega) (by omega) fun x hx => ?_
    have ht : l.take (i.toNat + 1) = l.take i.toNat ++ [x] := by rw [List.take_add_one, hx]; rfl
    refine W_if (fun hb => ?_) (fun hb => ?_)
    · refine W_app (by simp only [List.length_cons, List.length_nil]; omega) ?_
      refine W_op fun j hj => W_next ⟨⟨by dsimp only; omega, by dsimp only; omega, ?_⟩, by dsimp only; omega⟩
      dsimp only
      rw [show j.toNat = i.toNat + 1 from by omega, ht, i3]
      simp [cutL, cutC, hb]
    · refine W_op fun j hj => W_next ⟨⟨by dsimp only; omega, by dsimp only; omega, ?_⟩, by dsimp only; omega⟩
      dsimp only
      rw [show j.toNat = i.toNat + 1 from by omega, ht, i3]
      simp [cutL, cutC, hb]
  · refine W_done ?_
    have hs : srtG plan_compare.srt out = some (plan_compare.srt out) := by unfold srtG; rw [if_pos (by omega)]
    refine W_eq hs (W_ret ?_)
    rw [i3, List.take_of_length_le (by omega)]
end Go.Proofs.Ytgihkmmcddhajaa
