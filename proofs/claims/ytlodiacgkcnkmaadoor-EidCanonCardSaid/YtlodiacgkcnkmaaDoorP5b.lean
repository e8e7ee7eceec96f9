import Derived.Test.YtlodiacgkcnkmaaDoorP5a
set_option linter.unusedSimpArgs false
set_option linter.unusedVariables false
namespace Go.Proofs.YtlodiacgkcnkmaaDoor
open Go.X Go.Eng
theorem compact_sorted (d : Array Int) (hs : ∀ i j, i < j → j < d.size → d[i]! ≤ d[j]!) : ∀ m, m ≤ d.size →
    (Go.Lib.compactUpTo d m).Pairwise (· < ·) ∧ ∀ x, x ∈ Go.Lib.compactUpTo d m ↔ ∃ j, j < m ∧ d[j]! = x
  | 0, _ => by simp [Go.Lib.compactUpTo]
  | m + 1, hm => by
    obtain ⟨h1, h2⟩ := compact_sorted d hs m (by omega)
    rw [Go.Lib.compactUpTo_succ]
    by_cases hk : Go.Lib.keeps d m = true
    · rw [if_pos hk]
      have hk' : m = 0 ∨ d[m]! ≠ d[m - 1]! := by simpa [Go.Lib.keeps] using hk
      constructor
      · rw [List.pairwise_append]
        refine ⟨h1, by simp, fun a ha b hb => ?_⟩
        rw [List.mem_singleton] at hb
        subst hb
        obtain ⟨j, hj, rfl⟩ := (h2 a).1 ha
        rcases hk' with q | q
        · omega
        · have q1 : d[j]! ≤ d[m - 1]! := by
            by_cases e : j = m - 1
            · rw [e]; omega
            · exact hs j (m - 1) (by omega) (by omega)
          have q2 : d[m - 1]! ≤ d[m]! := hs (m - 1) m (by omega) (by omega)
          omega
      · intro x
        rw [List.mem_append, List.mem_singleton, h2]
        constructor
        · rintro (⟨j, hj, e⟩ | rfl)
          · exact ⟨j, by omega, e⟩
          · exact ⟨m, by omega, rfl⟩
        · rintro ⟨j, hj, e⟩
          by_cases q : j = m
          · subst q; exact .inr e.symm
          · exact .inl ⟨j, by omega, e⟩
    · rw [if_neg hk, List.append_nil]
      have hk' : ¬ (m = 0 ∨ d[m]! ≠ d[m - 1]!) := by simpa [Go.Lib.keeps] using hk
      have hm0 : m ≠ 0 := fun h => hk' (.inl h)
      have he : d[m]! = d[m - 1]! := by
        by_cases q : d[m]! = d[m - 1]!
        · exact q
        · exact absurd (.inr q) hk'
      refine ⟨h1, fun x => ?_⟩
      rw [h2]
      constructor
      · rintro ⟨j, hj, e⟩
        exact ⟨j, by omega, e⟩
      · rintro ⟨j, hj, e⟩
        by_cases q : j = m
        · subst q; exact ⟨j - 1, by omega, by rw [← he]; exact e⟩
        · exact ⟨j, by omega, e⟩
theorem srt_compact (zs : List Int) : (Go.Lib.compact (slices_Sort_int_int.srt zs)).Pairwise (· < ·) ∧ ∀ x, x ∈ Go.Lib.compact (slices_Sort_int_int.srt zs) ↔ x ∈ zs := by
  have hp : (slices_Sort_int_int.srt zs).Perm zs := List.mergeSort_perm _ _
  have hs : (slices_Sort_int_int.srt zs).Pairwise fun a b => decide (a ≤ b) = true :=
    List.pairwise_mergeSort (fun a b c h1 h2 => by simp at *; omega) (fun a b => by simp; omega) zs
  generalize slices_Sort_int_int.srt zs = d at hp hs
  have hs' : ∀ i j, i < j → j < d.toArray.size → d.toArray[i]! ≤ d.toArray[j]! := by
    intro i j hij hj
    rw [List.pairwise_iff_getElem] at hs
    have hj' : j < d.length := by simpa using hj
    have := hs i j (by omega) hj' hij
    rw [getElem!_pos d.toArray j hj, getElem!_pos d.toArray i (by omega)]
    simpa using this
  obtain ⟨h1, h2⟩ := compact_sorted d.toArray hs' d.length (by simp)
  refine ⟨h1, fun x => ?_⟩
  rw [← hp.mem_iff]
  show x ∈ Go.Lib.compactUpTo d.toArray d.length ↔ _
  rw [h2]
  constructor
  · rintro ⟨j, hj, e⟩
    rw [getElem!_pos d.toArray j (by simpa using hj)] at e
    rw [← e]
    simp
  · intro hx
    obtain ⟨j, hj, e⟩ := List.mem_iff_getElem.1 hx
    refine ⟨j, hj, ?_⟩
    rw [getElem!_pos d.toArray j (by simpa using hj)]
    simpa using e
def allS : List Int := (List.range 1001).map fun i : Nat => (i : Int) - 1
theorem allS_mem (s : Int) : s ∈ allS ↔ -1 ≤ s ∧ s ≤ 999 := by
  unfold allS
  rw [List.mem_map]
  constructor
  · rintro ⟨i, hi, rfl⟩
    rw [List.mem_range] at hi
    omega
  · rintro ⟨h1, h2⟩
    exact ⟨(s + 1).toNat, by rw [List.mem_range]; omega, by omega⟩
theorem allS_lt : allS.Pairwise (· < ·) := by
  unfold allS
  rw [List.pairwise_map]
  exact List.pairwise_lt_range.imp fun {a b} h => by omega
theorem lt_eq {l m : List Int} (hl : l.Pairwise (· < ·)) (hm : m.Pairwise (· < ·)) (h : ∀ x, x ∈ l ↔ x ∈ m) : l = m := by
  have n1 : l.Nodup := hl.imp fun {a b} h => by omega
  have n2 : m.Nodup := hm.imp fun {a b} h => by omega
  refine List.Perm.eq_of_pairwise (le := fun a b => a < b) ?_ hl hm ((List.perm_ext_iff_of_nodup n1 n2).2 h)
  intro a b _ _ h1 h2
  omega
theorem flatMap_filter {α β : Type} (p : α → Bool) (R : α → List β) : ∀ (l : List α), (∀ x ∈ l, p x = false → R x = []) → (l.filter p).flatMap R = l.flatMap R
  | [], _ => rfl
  | x :: l, h => by
    have ih := flatMap_filter p R l fun y hy => h y (by simp [hy])
    rw [List.filter_cons]
    cases hp : p x
    · rw [if_neg (by simp), List.flatMap_cons, h x (by simp) hp, List.nil_append, ih]
    · rw [if_pos rfl, List.flatMap_cons, List.flatMap_cons, ih]
theorem flatMap_all {β : Type} {sv : List Int} {R : Int → List β} (h1 : sv.Pairwise (· < ·)) (h2 : ∀ s ∈ sv, -1 ≤ s ∧ s ≤ 999) (h3 : ∀ s, s ∉ sv → R s = []) : sv.flatMap R = allS.flatMap R := by
  have : sv = allS.filter (fun s => decide (s ∈ sv)) := by
    refine lt_eq h1 (allS_lt.filter _) fun x => ?_
    rw [List.mem_filter, allS_mem, decide_eq_true_eq]
    exact ⟨fun h => ⟨h2 x h, h⟩, fun h => h.2⟩
  rw [this, flatMap_filter]
  intro x _ hx
  exact h3 x (by simpa using hx)
def gset (l : List EID) (s : Int) (n : Nat) : Bool := hits l s n && (s == -1 || !hits l (-1) n)
def canonL (l : List EID) : List EID := allS.flatMap fun s => rgs (gset l s) s 17
theorem hits_iff {l : List EID} {s : Int} {n : Nat} : hits l s n = true ↔ ∃ e ∈ l, (e.Service = s ∨ e.Service = -1) ∧ e.Low ≤ n ∧ (n : Int) ≤ e.High := by
  unfold hits
  rw [List.any_eq_true]
  simp only [Bool.and_eq_true, Bool.or_eq_true, beq_iff_eq, decide_eq_true_eq]
theorem hits0 {l : List EID} (h : ∀ e ∈ l, OKE e) (s : Int) : hits l s 0 = false := by
  rw [Bool.eq_false_iff]
  intro q
  obtain ⟨e, he, _, q1, _⟩ := hits_iff.1 q
  have := (h e he).lo
  omega
theorem gset0 {l : List EID} (h : ∀ e ∈ l, OKE e) (s : Int) : gset l s 0 = false := by unfold gset; rw [hits0 h]; rfl
theorem gset_none {l : List EID} {s : Int} (h : ∀ e ∈ l, e.Service ≠ s) (n : Nat) : gset l s n = false := by
  rw [Bool.eq_false_iff]
  intro q
  unfold gset at q
  rw [Bool.and_eq_true] at q
  obtain ⟨q1, q2⟩ := q
  obtain ⟨e, he, q3, q4⟩ := hits_iff.1 q1
  have q5 : e.Service = -1 := q3.resolve_left (h e he)
  have q6 : hits l (-1) n = true := hits_iff.2 ⟨e, he, .inl q5, q4⟩
  rw [q6] at q2
  have q7 : s = -1 := by simpa using q2
  exact h e he (q5.trans q7.symm)
theorem canon_eq {l : List EID} (h : OKP l) : eid_Canon l = some (if 20 < (canonL l).length then ([], 5) else (canonL l, 0)) := by
  refine W.eq ?_
  unfold eid_Canon
  refine W_eq (pattern_ok h) ?_
  refine W_brne (fun h => absurd rfl h) fun _ => ?_
  have hlen := h.len
  refine W_loop (fun st => (0 ≤ st.2 ∧ st.2 ≤ (l.length : Int)) ∧ st.1 = (l.take st.2.toNat).map (·.Service)) (fun st => l.length - st.2.toNat) ?_ ⟨⟨by dsimp only; omega, by dsimp only; omega⟩, rfl⟩
  rintro ⟨sv0, i⟩ ⟨⟨i1, i2⟩, hsv⟩
  dsimp only at i1 i2 hsv ⊢
  refine W_if (fun h1 => ?_) (fun h1 => ?_)
  · refine W_idx i1 h1 fun e he => ?_
    refine W_appc (by rw [hsv]; simp; omega) fun o ho => ?_
    refine W_op fun j hj => ?_
    refine W_next ⟨⟨⟨by dsimp only; omega, by dsimp only; omega⟩, ?_⟩, by dsimp only; omega⟩
    dsimp only
    have : j.toNat = i.toNat + 1 := by omega
    rw [ho, hsv, this, List.take_add_one, he]
    simp
  have hi : i.toNat = l.length := by omega
  rw [hi, List.take_length] at hsv
  refine W_done ?_
  dsimp only
  have hsl : sv0.length = l.length := by rw [hsv]; simp
  have hsrt : srtG slices_Sort_int_int.srt sv0 = some (slices_Sort_int_int.srt sv0) := by unfold srtG; rw [if_pos (by omega)]
  refine W_eq hsrt ?_
  refine W_eq (matched_eq h.ok (by omega) (-1)) ?_
  obtain ⟨c1, c2⟩ := srt_compact sv0
  have c3 : (Go.Lib.compact (slices_Sort_int_int.srt sv0)).length ≤ l.length := by
    have q1 := compact_le (slices_Sort_int_int.srt sv0)
    have q2 : (slices_Sort_int_int.srt sv0).length = sv0.length := (List.mergeSort_perm _ _).length_eq
    omega
  refine W_eq (a := Go.Lib.compact (slices_Sort_int_int.srt sv0)) rfl ?_
  generalize Go.Lib.compact (slices_Sort_int_int.srt sv0) = sv at c1 c2 c3
  have hmem : ∀ s, s ∈ sv ↔ ∃ e ∈ l, e.Service = s := by
    intro s
    rw [c2, hsv, List.mem_map]
  have hfin : sv.flatMap (fun s => rgs (gset l s) s 17) = canonL l := by
    refine flatMap_all c1 (fun s hs => ?_) (fun s hs => ?_)
    · obtain ⟨e, he, rfl⟩ := (hmem s).1 hs
      exact ⟨(h.ok e he).s1, (h.ok e he).s2⟩
    · refine rgs_none fun n _ => gset_none (fun e he q => hs ((hmem s).2 ⟨e, he, q⟩)) n
  refine W_loop (fun st => (0 ≤ st.2 ∧ st.2 ≤ (sv.length : Int)) ∧ st.1 = (sv.take st.2.toNat).flatMap (fun s => rgs (gset l s) s 17) ∧ (st.1.length : Int) ≤ 17 * st.2) (fun st => sv.length - st.2.toNat) ?_ ⟨⟨by dsimp only; omega, by dsimp only; omega⟩, rfl, by simp⟩
  rintro ⟨out, k⟩ ⟨⟨k1, k2⟩, hout, hol⟩
  dsimp only at k1 k2 hout hol ⊢
  refine W_if (fun h2 => ?_) (fun h2 => ?_)
  · refine W_idx k1 h2 fun s hs => ?_
    refine W_eq (matched_eq h.ok (by omega) s) ?_
    refine W_loop (fun st => (st.1 = out ∧ 0 ≤ st.2.1 ∧ st.2.1 ≤ 17) ∧ st.2.2 = tab fun n => if (n : Int) < st.2.1 then gset l s n else hits l s n) (fun st => 17 - st.2.1.toNat) ?_ ⟨⟨rfl, by dsimp only; omega, by dsimp only; omega⟩, ?_⟩
    · rintro ⟨out', n, M⟩ ⟨⟨e1, n1, n2⟩, hM⟩
      dsimp only at e1 n1 n2 hM ⊢
      subst e1
      rw [hM, lit_tab]
      refine W_if (fun h3 => ?_) (fun h3 => ?_)
      · refine W_brin n1 (by omega) ?_
        refine W_idxT n1 (by omega) ?_
        have hnn : ((n.toNat : Int) < n) = False := by simp; omega
        have hcur : (if (n.toNat : Int) < n then gset l s n.toNat else hits l s n.toNat) = hits l s n.toNat := if_neg (by omega)
        rw [hcur]
        have fin : ∀ (b : Bool) (j : Int), j = n + 1 → b = gset l s n.toNat → (lit_a17_bool (tab fun m => if m = n.toNat then b else (if (m : Int) < n then gset l s m else hits l s m))) = tab fun m => if (m : Int) < j then gset l s m else hits l s m := by
          intro b j hj hb
          rw [lit_tab]
          refine tab_congr fun m hm => ?_
          by_cases e : m = n.toNat
          · rw [if_pos e, if_pos (by omega), hb, e]
          · rw [if_neg e]
            by_cases q : (m : Int) < n
            · rw [if_pos q, if_pos (by omega)]
            · rw [if_neg q, if_neg (by omega)]
        refine W_br (fun hb => ?_) (fun hb => ?_)
        · refine W_breq (fun hs1 => ?_) (fun hs1 => ?_)
          · refine W_brin n1 (by omega) ?_
            refine W_putA n1 (by omega) ?_
            refine W_op fun j hj => ?_
            refine W_next ⟨⟨⟨rfl, by dsimp only; omega, by dsimp only; omega⟩, ?_⟩, by dsimp only; omega⟩
            exact fin _ j hj (by unfold gset; rw [hb, hs1]; rfl)
          · refine W_brin n1 (by omega) ?_
            rw [lit_tab]
            refine W_idxT n1 (by omega) ?_
            refine W_brin n1 (by omega) ?_
            refine W_putA n1 (by omega) ?_
            refine W_op fun j hj => ?_
            refine W_next ⟨⟨⟨rfl, by dsimp only; omega, by dsimp only; omega⟩, ?_⟩, by dsimp only; omega⟩
            refine fin _ j hj ?_
            unfold gset
            have : (s == -1) = false := by simpa using hs1
            rw [hb, this]; simp
        · refine W_brin n1 (by omega) ?_
          refine W_putA n1 (by omega) ?_
          refine W_op fun j hj => ?_
          refine W_next ⟨⟨⟨rfl, by dsimp only; omega, by dsimp only; omega⟩, ?_⟩, by dsimp only; omega⟩
          exact fin _ j hj (by unfold gset; rw [hb]; rfl)
      · refine W_done ?_
        dsimp only
        rw [lit_tab]
        have e2 : (tab fun m => if (m : Int) < n then gset l s m else hits l s m) = tab (gset l s) := tab_congr fun m hm => if_pos (by omega)
        rw [e2]
        refine W_eq (ranges_eq s (gset0 h.ok s)) ?_
        have hrl := (rgs_spec (gset l s) s 17).len
        refine W_appc (by omega) fun o ho => ?_
        refine W_op fun j hj => ?_
        refine W_next ⟨⟨⟨by dsimp only; omega, by dsimp only; omega⟩, ?_, ?_⟩, by dsimp only; omega⟩
        · dsimp only
          have : j.toNat = k.toNat + 1 := by omega
          rw [ho, hout, this, List.take_add_one, hs]
          simp
        · dsimp only
          rw [ho, List.length_append]
          omega
    · dsimp only
      rw [lit_tab]
      exact tab_congr fun m hm => (if_neg (by omega)).symm
  · have hk : k.toNat = sv.length := by omega
    rw [hk, List.take_length, hfin] at hout
    refine W_done ?_
    dsimp only
    rw [hout]
    refine W_brd (fun q => ?_) (fun q => ?_)
    · rw [if_pos (by omega)]; exact W_ret rfl
    · rw [if_neg (by omega)]; exact W_ret rfl
def ordE (a b : EID) : Prop := a.Service < b.Service ∨ (a.Service = b.Service ∧ a.High + 1 < b.Low)
theorem canon_ord (l : List EID) : (canonL l).Pairwise ordE := by
  unfold canonL
  rw [List.pairwise_flatMap]
  refine ⟨fun s _ => ?_, allS_lt.imp fun {a b} hab x hx y hy => ?_⟩
  · have := rgs_spec (gset l s) s 17
    have h1 := this.srv
    rw [List.pairwise_iff_getElem]
    intro i j hi hj hij
    have := List.pairwise_iff_getElem.1 this.gap i j hi hj hij
    exact .inr ⟨(h1 _ (List.getElem_mem hi)).trans (h1 _ (List.getElem_mem hj)).symm, this⟩
  · left
    rw [(rgs_spec (gset l a) a 17).srv x hx, (rgs_spec (gset l b) b 17).srv y hy]
    exact hab
theorem canon_ok {l : List EID} (h : ∀ e ∈ l, OKE e) : ∀ e ∈ canonL l, OKE e := by
  intro e he
  obtain ⟨s, hs, he⟩ := List.mem_flatMap.1 he
  have hsp := rgs_spec (gset l s) s 17
  have hb := hsp.bnd e he
  have hsv := hsp.srv e he
  have hs' := (allS_mem s).1 hs
  refine ⟨?_, hb.2.1, by omega, by omega, by omega⟩
  by_cases q : e.Low = 0
  · have := hsp.mem e he 0 (by omega) (by omega)
    rw [gset0 h s] at this
    cases this
  · omega
theorem canon_hits {l : List EID} {s : Int} (hs : -1 ≤ s ∧ s ≤ 999) {n : Nat} (hn : n < 17) : hits (canonL l) s n = hits l s n := by
  have cov : ∀ t n, -1 ≤ t ∧ t ≤ 999 → n < 17 → gset l t n = true → ∃ e ∈ canonL l, e.Service = t ∧ e.Low ≤ n ∧ (n : Int) ≤ e.High := by
    intro t n ht hn hg
    have hsp := rgs_spec (gset l t) t 17
    obtain ⟨e, he, q⟩ := hsp.all n hn hg
    exact ⟨e, List.mem_flatMap.2 ⟨t, (allS_mem t).2 ht, he⟩, hsp.srv e he, q⟩
  rw [Bool.eq_iff_iff, hits_iff]
  constructor
  · rintro ⟨e, he, hsv, q1, q2⟩
    obtain ⟨t, ht, he⟩ := List.mem_flatMap.1 he
    have hsp := rgs_spec (gset l t) t 17
    have hg := hsp.mem e he n q1 q2
    have hst := hsp.srv e he
    unfold gset at hg
    rw [Bool.and_eq_true] at hg
    rw [hst] at hsv
    rcases hsv with rfl | rfl
    · exact hg.1
    · obtain ⟨e', he', h1, h2⟩ := hits_iff.1 hg.1
      exact hits_iff.2 ⟨e', he', .inr (by rcases h1 with h1 | h1 <;> exact h1), h2⟩
  · intro hh
    by_cases ha : hits l (-1) n = true
    · obtain ⟨e, he, q1, q2⟩ := cov (-1) n (by omega) hn (by unfold gset; rw [ha]; rfl)
      exact ⟨e, he, .inr q1, q2⟩
    · obtain ⟨e, he, q1, q2⟩ := cov s n hs hn (by unfold gset; rw [hh]; simp [ha])
      exact ⟨e, he, .inl q1, q2⟩
theorem canon_congr {l m : List EID} (h : ∀ s n, -1 ≤ s ∧ s ≤ 999 → n < 17 → hits l s n = hits m s n) : canonL l = canonL m := by
  unfold canonL
  rw [List.flatMap_def, List.flatMap_def]
  refine congrArg List.flatten (List.map_congr_left fun s hs => ?_)
  have hs' := (allS_mem s).1 hs
  refine rgs_congr fun n hn => ?_
  unfold gset
  rw [h s n hs' hn, h (-1) n (by omega) hn]
theorem hits_mem {l m : List EID} (h : ∀ e, e ∈ l ↔ e ∈ m) (s : Int) (n : Nat) : hits l s n = hits m s n := by
  rw [Bool.eq_iff_iff, hits_iff, hits_iff]
  exact ⟨fun ⟨e, he, q⟩ => ⟨e, (h e).1 he, q⟩, fun ⟨e, he, q⟩ => ⟨e, (h e).2 he, q⟩⟩
end Go.Proofs.YtlodiacgkcnkmaaDoor
