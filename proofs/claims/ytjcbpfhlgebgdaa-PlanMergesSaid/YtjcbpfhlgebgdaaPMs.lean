import Derived.Test.YtjcbpfhlgebgdaaPMc
import Derived.Test.YtjcbpfhlgebgdaaPS
import Derived.Test.YtjcbpfhlgebgdaaXGMg
set_option linter.unusedSimpArgs false
set_option linter.unusedVariables false
namespace Go.Proofs.Ytjcbpfhlgebgdaa
open Go.X Go.Eng Go.Seq
theorem gp_ex (L : List Contact) : ∀ n, n ≤ L.length → ∃ G, GP (L.take n) G
  | 0, _ => ⟨[], by simpa using GP.nil⟩
  | n + 1, hn => by
    obtain ⟨G, h⟩ := gp_ex L n (by omega)
    have hc : L[n]? = some L[n] := List.getElem?_eq_getElem (by omega)
    rw [List.take_add_one, hc]
    exact ⟨_, h.step _⟩
theorem union_ex (l : List Contact) (hv : ValC l) : ∃ F, GoodF l F := by
  obtain ⟨p1, p2⟩ := srt_spec l
  generalize plan_compare.srt l = L at p1 p2
  have hvL : ValC L := fun c hc => hv c (p1.mem_iff.1 hc)
  have ha := asc_start p2
  obtain ⟨G, hG⟩ := gp_ex L L.length (Nat.le_refl _)
  rw [List.take_length] at hG
  have hex : ∀ q : (Int × Int) × List Contact, ∃ o, q ∈ G → JInv q.2 o := fun q => by
    by_cases hq : q ∈ G
    · obtain ⟨o, ho⟩ := join_ex' (hG.pairL ha hvL hq)
      exact ⟨o, fun _ => ho⟩
    · exact ⟨[], fun h => absurd h hq⟩
  obtain ⟨g1, _⟩ := glue hG (G.map fun q => Classical.choose (hex q)) (by simp) fun i q o hi ho => by
    rw [List.getElem?_map, hi] at ho
    simp at ho
    subst ho
    exact (Classical.choose_spec (hex q) (List.mem_of_getElem? hi)).good
  exact ⟨_, g1.congr fun c => p1.mem_iff⟩
theorem srf_ex {F : List Contact} (hok : ∀ c ∈ F, OKC c) : ∃ r, SRF F r := by
  by_cases hap : F.Pairwise apartC
  · by_cases h : F.length ≤ 200
    · exact ⟨_, SRF.of hap hok h⟩
    · exact ⟨_, .inr (.inl ⟨hap, by omega, rfl⟩)⟩
  · exact ⟨_, .inl ⟨hap, rfl⟩⟩
theorem merge_w {a b : List Contact} (ha : Valid a) (hla : a.length ≤ 200) (hb : Valid b) (hlb : b.length ≤ 200) : W (plan_Merge (a, b)) fun r => ∃ F, GoodF (a ++ b) F ∧ SRF F r ∧ ∀ c ∈ F, OKC c := by
  have hok : ∀ c ∈ a ++ b, OKC c := fun c hc => by
    rcases List.mem_append.1 hc with hc | hc
    · exact ha.ok c hc
    · exact hb.ok c hc
  obtain ⟨F, hF⟩ := union_ex (a ++ b) fun c hc => (hok c hc).s.2.1
  have hFo := hF.ok hok
  obtain ⟨r, hr⟩ := srf_ex hFo
  exact ⟨r, plan_Merge_of (.inr (.inr ⟨⟨0, check_w ha hla⟩, ⟨0, check_w hb hlb⟩, F, hF, hr⟩)) fun _ _ => ⟨hok, hla, hlb⟩, F, hF, hr, hFo⟩
theorem SRF.len {F : List Contact} {r : List Contact × Int} (h : SRF F r) : r.1.length ≤ 200 := by
  rcases h with ⟨_, rfl⟩ | ⟨_, _, rfl⟩ | ⟨_, h1, _, h2, _⟩
  · simp
  · simp
  · rw [h2.length_eq]; exact h1
end Go.Proofs.Ytjcbpfhlgebgdaa
