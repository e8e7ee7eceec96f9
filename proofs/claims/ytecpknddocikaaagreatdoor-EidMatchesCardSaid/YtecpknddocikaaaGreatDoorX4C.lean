import Derived.Test.YtecpknddocikaaaGreatDoorX9
import Derived.Shelf.Slices.CompactI
set_option linter.unusedSimpArgs false
set_option linter.unusedVariables false
namespace Go.X
open Go.Eng
open Go.RowKit Go.Proofs Go.Shelf Go.Lib Go.Sort
variable {P : Program} {ρ : Ren}
theorem compact_le (zs : List Int) : (Lib.compact zs).length ≤ zs.length := by
  unfold Lib.compact compactUpTo
  rw [List.length_map]
  exact Nat.le_trans (List.length_filter_le _ _) (by simp)
theorem FnM.of_compact (L : Lays2.n20 P ρ) {e : TypeId} (hsz : (P.info? e).map (·.size) = some 1) (zs : List Int) :
    FnM P (ρ.f 20) [.list (zs.map enc_i64)] [] 0 e (.list ((Lib.compact zs).map enc_i64)) [] := by
  intro w pr lam cargs hl hown hargs hoth hins hinj hlam
  have hargs' := hargs
  simp only [RL] at hargs
  obtain ⟨x, ys, hc, hR, rfl⟩ := hargs
  have hca : cargs = #[x] := by rw [← Array.toList_inj]; simpa using hc
  subst hca
  have hx0 : (#[x] : Array Value).getD 0 undef = x := rfl
  rw [hx0] at hown ⊢
  simp only [R] at hR
  obtain ⟨base, cap, rfl, hle, hm, hrow⟩ := hR
  simp only [List.length_map] at hle ⊢
  have same : ∀ (hz : zs = []), Calls P (ρ.f 20) #[.slice base zs.length cap] w fun en w' => ∃ v pr', en = .returned v ∧ R ⟨w', pr', lam⟩ (.list ((Lib.compact zs).map enc_i64)) v ∧ InRel w' pr' lam [] ∧
      LeftM w pr lam (gblock 0 (.slice base zs.length cap)) w' pr' ∧ Own P (fun g => w.heap.size ≤ g ∨ gblock 0 (.slice base zs.length cap) = some g) ⟨w', pr', lam⟩ 0 e v := by
    intro hz
    subst hz
    refine (Any.slices_Compact_int_empty L base cap w).mono ?_
    rintro en w' ⟨rfl, rfl⟩
    refine ⟨_, pr, rfl, ?_, fun i B h => by simp at h, ⟨rfl, rfl, rfl, DLE.refl _, Nat.le_refl _, fun _ _ _ _ => rfl, fun _ _ h _ => h, fun b o h => ?_⟩, fun g hg => ⟨.inr hg, (hown g hg).2⟩⟩
    · simp only [R]
      refine ⟨base, cap, rfl, hle, hm, ?_⟩
      rcases hrow with ⟨_, h⟩ | ⟨b, o, k, h1, h2⟩
      · exact .inl ⟨rfl, h⟩
      · exact .inr ⟨b, o, k, h1, by simpa [Lib.compact, compactUpTo] using h2⟩
    · by_cases q : gblock 0 (.slice base ([] : List Int).length cap) = some b
      · exact .inr (.inr q)
      · exact .inl ⟨h, q⟩
  by_cases hz : zs = []
  · exact same hz
  clear same
  have hpos : 0 < zs.length := List.length_pos_iff.2 hz
  rcases hrow with ⟨h, _⟩ | ⟨b, o, k, hb, hrr⟩
  · exact absurd (by simpa using h) hz
  subst hb
  have hg : gblock 0 (.slice (some ⟨b, o, none⟩) zs.length cap) = some b := by simp [gblock]; omega
  obtain ⟨⟨hgl, hnl⟩, n, cap', cur, sz, h1, h2, h3, h4, h5⟩ := hown b (by simpa using hg)
  simp only [List.length_map] at h1
  cases h1
  rw [hsz] at h3
  cases h3
  have hblt : b < w.heap.size := (Array.getElem?_eq_some_iff.1 h2).1
  have hk : k = 1 := by
    obtain ⟨y, p1, p2, _⟩ := hrr.get 0 (enc_i64 zs[0]) (by simp [hpos])
    simp only [enc_i64, R] at p1
    subst p1
    simpa [Value.cells] using p2.symm
  subst hk
  have hcell : ∀ j, j < zs.length → w.cell? ⟨b, 0 + j, none⟩ = some (.int .i64 (zs.getD j 0)) := by
    intro j hj
    obtain ⟨y, p1, p2, p3⟩ := hrr.get j (enc_i64 zs[j]) (by simp [hj])
    simp only [enc_i64, R] at p1
    subst p1
    obtain ⟨p4, _⟩ := p3 0 (.int .i64 zs[j]) (by simp [Value.cells])
    have e1 : 0 + j * 1 + 0 = 0 + j := by omega
    rw [e1] at p4
    rw [List.getD_eq_getElem?_getD, List.getElem?_eq_getElem hj]
    exact p4.1
  have hH : Holds (Value.int .i64) w b 0 zs.toArray := by
    intro j hj
    have hj' : j < zs.length := by simpa using hj
    refine ⟨?_, by simp [World.frozen?, h2]⟩
    rw [hcell j hj', List.getD_eq_getElem?_getD, List.getElem?_eq_getElem hj']
    simp [hj']
  have hmx : zs.length ≤ 9223372036854775807 := Nat.le_trans hle (Nat.le_trans hm (by decide))
  refine (Any.slices_Compact_int L b 0 cap zs w hH hmx hle).mono ?_
  rintro en w' ⟨rfl, q, rfl⟩
  have hcl := compact_le zs
  generalize hD : Lib.compact zs ++ List.replicate (zs.length - (Lib.compact zs).length) 0 = D
  have hDl : D.length = zs.length := by rw [← hD]; simp; omega
  have hDg : ∀ i, i < (Lib.compact zs).length → D[i]? = (Lib.compact zs)[i]? := fun i hi => by rw [← hD, List.getElem?_append_left hi]
  generalize Lib.compact zs = C at hcl hDg
  have hsH : Holds (Value.int .i64) (Sort.ahead w q) b 0 zs.toArray := fun j hj => hH j hj
  have hput := holds_putRow (Value.int .i64) (Go.Sort.ahead w q) b 0 zs.toArray D.toArray hsH (by simp [hDl])
  have hblk : (putRow (Value.int .i64) (Go.Sort.ahead w q) b 0 D.toArray).heap[b]? = some (.cells (putCells (Value.int .i64) 0 D.toArray cur) e (0, 0)) := by
    show ((Go.Sort.ahead w q).heap.modify b _)[b]? = _
    rw [Array.getElem?_modify, if_pos rfl]
    show (w.heap[b]?).map _ = _
    rw [h2]
    rfl
  have hsize : (putRow (Value.int .i64) (Go.Sort.ahead w q) b 0 D.toArray).heap.size = w.heap.size := by rw [Go.Sort.size_putRow]; rfl
  refine ⟨_, fun b' o' => (pr b' o' ∧ b' ≠ b) ∨ (b' = b ∧ o' < C.length), rfl, ?_, fun i B h => by simp at h, ⟨rfl, rfl, rfl, DLE.of_le (Nat.le_add_right _ _), ?_, fun k' hk' _ hne => ?_, fun b' o' hp hne => ?_, fun b' o' hp => ?_⟩, fun g hg' => ?_⟩
  · simp only [R]
    refine ⟨_, cap, by rw [List.length_map], by rw [List.length_map]; omega, hm, .inr ⟨b, 0, 1, rfl, ?_⟩⟩
    refine RR.of_get fun i r hi => ?_
    rw [List.getElem?_map] at hi
    cases hCi : C[i]? with
    | none => rw [hCi] at hi; cases hi
    | some x =>
      rw [hCi] at hi
      cases hi
      have hil : i < C.length := (List.getElem?_eq_some_iff.1 hCi).1
      refine ⟨.int .i64 x, by simp [enc_i64, R], by simp [Value.cells], fun j z hz' => ?_⟩
      have hj : j = 0 := by
        have := (Array.getElem?_eq_some_iff.1 hz').1
        simp [Value.cells] at this
        omega
      subst hj
      simp [Value.cells] at hz'
      subst hz'
      have := (hput i (by simp; omega)).1
      have e1 : 0 + i * 1 + 0 = 0 + i := by omega
      refine ⟨⟨?_, ?_⟩, rfl⟩
      · rw [e1, this]
        have : D.toArray[i]! = x := by
          rw [getElem!_def]
          simp [hDg i hil, hCi]
        rw [this]
      · rw [e1]
        exact .inr ⟨rfl, by omega⟩
  · rw [hsize]; exact Nat.le_refl _
  · have : k' ≠ b := fun q => hne (by rw [hg, q])
    show ((Go.Sort.ahead w q).heap.modify b _)[k']? = _
    rw [Array.getElem?_modify, if_neg (Ne.symm this)]
    rfl
  · exact .inl ⟨hp, fun q => hne (by rw [hg, q])⟩
  · rcases hp with ⟨hp, hne⟩ | ⟨rfl, _⟩
    · exact .inl ⟨hp, fun q => hne (by rw [hg] at q; exact (Option.some.inj q).symm)⟩
    · exact .inr (.inr hg)
  · have hgb : g = b := by
      unfold gblock at hg'
      simp at hg'
      exact hg'.2.symm
    subst hgb
    refine ⟨.inr hg, C.length, cap, _, 1, rfl, hblk, hsz, by simp [putCells, h4], fun o' ho' hp => ?_⟩
    rcases hp with ⟨_, hne⟩ | ⟨_, hlt⟩
    · exact hne rfl
    · omega
noncomputable def XMut.compact (L : Lays2.n20 P ρ) {e : TypeId} (hsz : (P.info? e).map (·.size) = some 1) (hgo : isGo P (ρ.f 20) = true) : XMut P where
  f := ρ.f 20
  p := 0
  c := .i64
  e := e
  run := fun args ins K => match args, ins with
    | [.lst .i64 l], [] => some (K (Lib.compact l) [])
    | _, _ => none
  sound := by
    intro β args ins K r h
    split at h
    · rename_i l
      simp only [Option.some.injEq] at h
      refine ⟨_, [], h, hgo, ?_, by simp, rfl⟩
      simp only [toVL, toV]
      exact FnM.of_compact L hsz l
    · cases h
end Go.X
