import Derived.Test.YtjcbpfhlgebgdaaDoorXRr
import Derived.KernelRfl
set_option linter.unusedSimpArgs false
set_option linter.unusedVariables false
namespace Go.Proofs.YtjcbpfhlgebgdaaDoor
open Go Go.Eng Go.RowKit Go.X Go.Seq
theorem plain_eq (c : Int) : words_plain c = some (plainI c) := by
  unfold words_plain plainI
  by_cases h1 : c = 34
  · subst h1; rfl
  by_cases h2 : c = 61
  · subst h2; rfl
  by_cases h3 : c = 92
  · subst h3; rfl
  have e1 : (c == (34 : Int)) = false := beq_eq_false_iff_ne.2 h1
  have e2 : (c == (61 : Int)) = false := beq_eq_false_iff_ne.2 h2
  have e3 : (c == (92 : Int)) = false := beq_eq_false_iff_ne.2 h3
  rw [e1, e2, e3, decide_eq_false h1, decide_eq_false h2, decide_eq_false h3]
  by_cases h4 : 32 < c
  · rw [decide_eq_true h4]; simp [br]
  · rw [decide_eq_false h4]; simp [br]
def bareB (l : List UInt8) : Bool := (l.all fun c => plainI (c.toNat : Int)) && !decide (l = []) && !decide (l.head? = some 35)
theorem bare_loop {s : List UInt8} (hs : s.length ≤ 1000000) (F : Int → Option (Step Int (Bool ⊕ Unit)))
    (hF : ∀ i : Nat, F (i : Int) = br (decide ((i : Int) < (s.length : Int))) ((idx (bytesI s) (i : Int)).bind fun x_3 => (words_plain x_3).bind fun x_4 => br (!x_4) (some (.done (.inl false))) ((addI .i64 (i : Int) (1 : Int)).bind fun x_5 => some (.next x_5))) (some (.done (.inr ())))) :
    ∀ (k i : Nat), i + k = s.length → iter F (i : Int) = some (if (s.drop i).all (fun c => plainI (c.toNat : Int)) then .inr () else .inl false)
  | 0, i, hi => by
    rw [iter_eq, hF, decide_eq_false (by omega)]
    rw [List.drop_eq_nil_of_le (by omega)]
    rfl
  | k + 1, i, hi => by
    have hlt : i < s.length := by omega
    have hidx : idx (bytesI s) (i : Int) = some ((s[i].toNat : Int)) := by
      unfold idx bytesI
      simp [hlt]
    have hadd : addI .i64 (i : Int) (1 : Int) = some (((i + 1 : Nat)) : Int) := by
      unfold addI
      have hin : InR .i64 ((i : Int) + 1) := IntWalk.i64_in _ (by omega)
      rw [if_pos hin]
      simp
    rw [iter_eq, hF, decide_eq_true (by omega), hidx]
    simp only [Option.bind_some, plain_eq, br]
    rw [List.drop_eq_getElem_cons hlt, List.all_cons]
    cases hp : plainI (s[i].toNat : Int) with
    | false => simp
    | true =>
      simp only [Bool.not_true, hadd, Option.bind_some, Bool.true_and]
      have := bare_loop hs F hF k (i + 1) (by omega)
      simpa using this
theorem bare_eq {l : List UInt8} (hl : l.length ≤ 1000000) : words_bare l = some (bareB l) := by
  unfold words_bare
  have hlen : (bytesI l).length = l.length := by simp [bytesI]
  rw [hlen]
  have h0 := bare_loop (s := l) hl (fun x_2 => br (decide (x_2 < (l.length : Int))) ((idx (bytesI l) x_2).bind fun x_3 => (words_plain x_3).bind fun x_4 => br (!x_4) (some (.done (.inl false))) ((addI .i64 x_2 (1 : Int)).bind fun x_5 => some (.next x_5))) (some (.done (.inr ())))) (fun i => rfl) l.length 0 (by omega)
  rw [List.drop_zero] at h0
  simp only [Int.natCast_zero] at h0
  rw [h0]
  simp only [Option.bind_some]
  unfold bareB
  cases ha : (l.all fun c => plainI (c.toNat : Int)) with
  | false => rfl
  | true =>
    rw [if_pos rfl]
    cases l with
    | nil => rfl
    | cons x t =>
      show br (!(x :: t == [])) ((idxS (x :: t) 0).bind fun x_7 => some (x_7 != (35 : Int))) (some false) = _
      have e1 : (x :: t == ([] : List UInt8)) = false := rfl
      have e2 : idxS (x :: t) 0 = some ((x.toNat : Int)) := rfl
      rw [e1, e2]
      simp only [br, Bool.not_false, Option.bind_some, List.head?_cons, Bool.true_and, Option.some.injEq, cond_true]
      rw [decide_eq_false (by simp)]
      simp only [Bool.not_false, Bool.true_and]
      by_cases hx : x = 35
      · subst hx; rfl
      · have h3 : ¬ ((x.toNat : Int) = 35) := u8_ne (n := 35) (by omega) hx
        rw [decide_eq_false hx]
        simpa using h3
theorem bareF_eq {l : List UInt8} (hl : l.length ≤ 1000000) : bareF l = some (bareB l) := by
  unfold bareF; rw [if_pos hl, bare_eq hl]
theorem idxS_bytes (s : List UInt8) (i : Int) : idx (bytesI s) i = idxS s i := by
  unfold idxS idx bytesI
  split
  · simp [List.getElem?_map]
  · rfl
end Go.Proofs.YtjcbpfhlgebgdaaDoor
namespace Go.Proofs.YtjcbpfhlgebgdaaDoor
open Go Go.Eng Go.RowKit Go.X Go.Seq
end Go.Proofs.YtjcbpfhlgebgdaaDoor
namespace Go.Proofs.YtjcbpfhlgebgdaaDoor
open Go Go.Eng Go.RowKit Go.X Go.Seq
end Go.Proofs.YtjcbpfhlgebgdaaDoor
namespace Go.Proofs.YtjcbpfhlgebgdaaDoor
open Go Go.Eng Go.RowKit Go.X Go.Seq
theorem addI_ok {a b : Int} (h : -1000000000 ≤ a + b ∧ a + b ≤ 1000000000) : addI .i64 a b = some (a + b) := by
  unfold addI
  have hin : InR .i64 (a + b) := IntWalk.i64_in _ (by omega)
  rw [if_pos hin]
end Go.Proofs.YtjcbpfhlgebgdaaDoor
namespace Go.Proofs.YtjcbpfhlgebgdaaDoor
open Go Go.Eng Go.RowKit Go.X Go.Seq
end Go.Proofs.YtjcbpfhlgebgdaaDoor
namespace Go.Proofs.YtjcbpfhlgebgdaaDoor
open Go Go.Eng Go.RowKit Go.X Go.Seq
end Go.Proofs.YtjcbpfhlgebgdaaDoor
namespace Go.Proofs.YtjcbpfhlgebgdaaDoor
open Go Go.Eng Go.RowKit Go.X Go.Seq
end Go.Proofs.YtjcbpfhlgebgdaaDoor
namespace Go.Proofs.YtjcbpfhlgebgdaaDoor
open Go Go.Eng Go.RowKit Go.X Go.Seq
end Go.Proofs.YtjcbpfhlgebgdaaDoor
namespace Go.Proofs.YtjcbpfhlgebgdaaDoor
open Go Go.Eng Go.RowKit Go.X Go.Seq
def blL (l : List UInt8) : Nat := (l.takeWhile fun c => !decide (c = 32)).length
theorem blank_loop {S : List UInt8} (hS : S.length ≤ 1000000) (F : Int → Option (Step Int Int))
    (hF : ∀ i : Int, F i = br (decide (i < (S.length : Int))) ((idxS S i).bind fun x_8 => br (x_8 != (32 : Int)) ((addI .i64 i (1 : Int)).bind fun x_9 => some (.next x_9)) (some (.done i))) (some (.done i))) :
    ∀ (k i : Nat), i + k = S.length → iter F (i : Int) = some ((i + blL (S.drop i) : Nat) : Int)
  | 0, i, hi => by
    rw [iter_eq, hF, decide_eq_false (by omega), List.drop_eq_nil_of_le (by omega)]
    rfl
  | k + 1, i, hi => by
    have hlt : i < S.length := by omega
    have hidx : idxS S (i : Int) = some ((S[i].toNat : Int)) := by
      unfold idxS idx
      simp [hlt]
    rw [iter_eq, hF, decide_eq_true (by omega), hidx]
    simp only [Option.bind_some, br, cond_true]
    rw [List.drop_eq_getElem_cons hlt]
    unfold blL
    rw [List.takeWhile_cons]
    by_cases h32 : S[i] = 32
    · have b : ((S[i].toNat : Int) != (32 : Int)) = false := by rw [h32]; rfl
      rw [b, if_neg (by simp [h32])]
      simp
    · have b : ((S[i].toNat : Int) != (32 : Int)) = true := bne_iff_ne.2 (u8_ne (n := 32) (by omega) h32)
      rw [b, if_pos (by simp [h32])]
      simp only [cond_true, addI_ok (a := (i : Int)) (b := 1) (by omega), Option.bind_some]
      have := blank_loop hS F hF k (i + 1) (by omega)
      simp only [List.length_cons]
      rw [show (i : Int) + 1 = ((i + 1 : Nat) : Int) by omega, this]
      unfold blL
      congr 1
      omega
end Go.Proofs.YtjcbpfhlgebgdaaDoor
namespace Go.Proofs.YtjcbpfhlgebgdaaDoor
open Go Go.Eng Go.RowKit Go.X Go.Seq
theorem plain_not_blank {c : UInt8} (h : plainI (c.toNat : Int) = true) : ¬ c = 32 := by
  rintro rfl; exact absurd h (by decide)
theorem scan_blank : ∀ (l : List UInt8), (scanL l ≤ blL l) ∧ ((l.take (blL l)).all (fun c => plainI (c.toNat : Int)) = true ↔ scanL l = blL l) ∧ (scanL l = blL l ↔ (l[scanL l]? = none ∨ l[scanL l]? = some 32))
  | [] => by simp [scanL, blL]
  | x :: l => by
    obtain ⟨h1, h2, h3⟩ := scan_blank l
    unfold scanL blL at *
    rw [List.takeWhile_cons, List.takeWhile_cons]
    by_cases hx : plainI (x.toNat : Int) = true
    · have hb := plain_not_blank hx
      rw [if_pos hx, if_pos (by simp [hb])]
      refine ⟨by simpa using h1, ?_, ?_⟩
      · simp only [List.length_cons, List.take_succ_cons, List.all_cons, hx, Bool.true_and, Nat.add_right_cancel_iff]
        exact h2
      · simp only [List.length_cons, List.getElem?_cons_succ, Nat.add_right_cancel_iff]
        exact h3
    · rw [if_neg hx]
      by_cases hb : x = 32
      · rw [if_neg (by simp [hb])]
        refine ⟨Nat.le_refl _, by simp, by simp [hb]⟩
      · rw [if_pos (by simp [hb])]
        refine ⟨by simp, ?_, ?_⟩
        · simp [hx]
        · simp [hb]
end Go.Proofs.YtjcbpfhlgebgdaaDoor
namespace Go.Proofs.YtjcbpfhlgebgdaaDoor
open Go Go.Eng Go.RowKit Go.X Go.Seq
end Go.Proofs.YtjcbpfhlgebgdaaDoor
namespace Go.Proofs.YtjcbpfhlgebgdaaDoor
open Go Go.Eng Go.RowKit Go.X Go.Seq
end Go.Proofs.YtjcbpfhlgebgdaaDoor
namespace Go.Proofs.YtjcbpfhlgebgdaaDoor
open Go Go.Eng Go.RowKit Go.X Go.Seq
theorem bsOf_list (S : List UInt8) : (bsOf S).data.toList = S := by simp [bsOf]
theorem bsOf_size (S : List UInt8) : (bsOf S).size = S.length := List.size_toArray
theorem bsOf_get (S : List UInt8) (i : Nat) : (bsOf S).data[i]? = S[i]? := by simp [bsOf]
theorem idxS_nat (S : List UInt8) (i : Nat) : idxS S (i : Int) = (S[i]?).map fun b => (b.toNat : Int) := by
  unfold idxS idx; rw [if_pos (by omega)]; rfl
theorem idxS_iff {S : List UInt8} {q : Int} (hq : 0 ≤ q) {c : UInt8} : S[q.toNat]? = some c ↔ idxS S q = some (c.toNat : Int) := by
  unfold idxS idx
  rw [if_pos hq]
  cases S[q.toNat]? with
  | none => simp
  | some x => simp only [Option.map_some, Option.some.injEq]; exact ⟨fun e => by rw [e], fun e => UInt8.toNat_inj.1 (by omega)⟩
def endB (S : List UInt8) (q : Int) : Bool := decide ((S.length : Int) ≤ q) || decide (S[q.toNat]? = some 32)
theorem bd_plain {S : List UInt8} (hS : S.length ≤ 1000000) {p : Int} (h0 : 0 ≤ p) (h1 : p ≤ (S.length : Int)) (hc : idxS S p ≠ some 34) :
    bdF (bsOf S) p = some (((S.drop p.toNat).take (scanL (S.drop p.toNat)), bareB ((S.drop p.toNat).take (scanL (S.drop p.toNat)))), ((p.toNat + scanL (S.drop p.toNat) : Nat) : Int)) := by
  unfold bdF bodyF
  rw [bsOf_size, if_pos ⟨h0, h1⟩, bsOf_get, if_neg (fun h => hc ((idxS_iff h0).1 h)), bsOf_list]
  rw [bareF_eq (by simp only [List.length_take, List.length_drop]; omega)]
  simp only [Option.map_some, Option.some.injEq, Prod.mk.injEq, true_and]
  omega
end Go.Proofs.YtjcbpfhlgebgdaaDoor
namespace Go.Proofs.YtjcbpfhlgebgdaaDoor
open Go Go.Eng Go.RowKit Go.X Go.Seq
theorem tw_at (P : UInt8 → Bool) : ∀ (l : List UInt8), (∀ j, j < (l.takeWhile P).length → ∃ c, l[j]? = some c ∧ P c = true) ∧ (∀ c, l[(l.takeWhile P).length]? = some c → P c = false)
  | [] => ⟨fun j h => by simp at h, fun c h => by simp at h⟩
  | x :: l => by
    rw [List.takeWhile_cons]
    cases hx : P x with
    | false => exact ⟨fun j h => by simp at h, fun c h => by simp at h; rw [← h]; exact hx⟩
    | true =>
      obtain ⟨h1, h2⟩ := tw_at P l
      refine ⟨fun j h => ?_, fun c h => h2 c (by simpa using h)⟩
      cases j with
      | zero => exact ⟨x, rfl, hx⟩
      | succ j => exact h1 j (by simpa using h)
def keyP (c : UInt8) : Bool := !decide (c = 32) && !decide (c = 61) && !decide (c = 34)
def eL (l : List UInt8) : Nat := (l.takeWhile keyP).length
theorem plain_before {l : List UInt8} (h : l[eL l]? = some 61) : scanL l < l.length ∧ l[scanL l]? ≠ some 32 := by
  have hel : eL l < l.length := (List.getElem?_eq_some_iff.1 h).1
  have hle : scanL l ≤ eL l := by
    rcases Nat.lt_or_ge (eL l) (scanL l) with hlt | hge
    · obtain ⟨c, hc, hk⟩ := (tw_at (fun c => plainI (c.toNat : Int)) l).1 _ hlt
      rw [h] at hc
      cases hc
      exact absurd hk (by decide)
    · exact hge
  refine ⟨by omega, fun h32 => ?_⟩
  rcases Nat.lt_or_ge (scanL l) (eL l) with hlt | hge
  · obtain ⟨c, hc, hk⟩ := (tw_at keyP l).1 _ hlt
    rw [h32] at hc
    cases hc
    exact absurd hk (by decide)
  · have : scanL l = eL l := by omega
    rw [this, h] at h32
    exact absurd h32 (by decide)
end Go.Proofs.YtjcbpfhlgebgdaaDoor
namespace Go.Proofs.YtjcbpfhlgebgdaaDoor
open Go Go.Eng Go.RowKit Go.X Go.Seq
def lowB (c : UInt8) : Bool := decide (97 ≤ c.toNat) && decide (c.toNat ≤ 122)
def okC (c : UInt8) : Bool := decide (c.toNat = 45) || (decide (48 ≤ c.toNat) && decide (c.toNat ≤ 57))
def nmA : Nat → List UInt8 → Bool
  | _, [] => true
  | i, c :: l => (lowB c || (decide (i ≠ 0) && okC c)) && nmA (i + 1) l
def nameB (l : List UInt8) : Bool := nmA 0 l && (decide (1 ≤ l.length) && decide (l.length ≤ 20))
theorem nmA_key : ∀ {i : Nat} {l : List UInt8}, nmA i l = true → ∀ c ∈ l, keyP c = true
  | i, [], _, c, h => by cases h
  | i, x :: l, h, c, hc => by
    unfold nmA at h
    rw [Bool.and_eq_true] at h
    rcases List.mem_cons.1 hc with rfl | hc
    · have h1 := h.1
      unfold lowB okC at h1
      unfold keyP
      have a1 : c ≠ 32 := by rintro rfl; exact absurd h1 (by simp)
      have a2 : c ≠ 61 := by rintro rfl; exact absurd h1 (by simp)
      have a3 : c ≠ 34 := by rintro rfl; exact absurd h1 (by simp)
      rw [decide_eq_false a1, decide_eq_false a2, decide_eq_false a3]; rfl
    · exact nmA_key h.2 c hc
theorem name_loop {s : List UInt8} (F : Int → Option (Step Int (Bool ⊕ Unit)))
    (hF : ∀ (i : Nat) (h : i < s.length), F (i : Int) = some (if lowB s[i] || (decide (i ≠ 0) && okC s[i]) then .next ((i : Int) + 1) else .done (.inl false))) (hE : F (s.length : Int) = some (.done (.inr ()))) :
    ∀ (k i : Nat), i + k = s.length → iter F (i : Int) = some (if nmA i (s.drop i) then .inr () else .inl false)
  | 0, i, hi => by
    have : i = s.length := by omega
    subst this
    rw [iter_eq, hE, List.drop_eq_nil_of_le (Nat.le_refl _)]
    rfl
  | k + 1, i, hi => by
    have hlt : i < s.length := by omega
    rw [iter_eq, hF i hlt, List.drop_eq_getElem_cons hlt]
    unfold nmA
    cases hx : (lowB s[i] || (decide (i ≠ 0) && okC s[i])) with
    | false => simp
    | true =>
      have := name_loop F hF hE k (i + 1) (by omega)
      simp only [if_true, Bool.true_and]
      rw [show (i : Int) + 1 = ((i + 1 : Nat) : Int) by omega, this]
theorem name_step {α : Type} (i : Nat) (c : UInt8) (x y : α) :
    (bif decide ((97 : Int) ≤ (c.toNat : Int)) then
      bif !decide ((c.toNat : Int) ≤ (122 : Int)) then
        bif (i : Int) == (0 : Int) then some x
        else bif (c.toNat : Int) != (45 : Int) then bif decide ((c.toNat : Int) < (48 : Int)) then some x else bif decide ((57 : Int) < (c.toNat : Int)) then some x else some y else some y
      else some y
    else
      bif (i : Int) == (0 : Int) then some x
      else bif (c.toNat : Int) != (45 : Int) then bif decide ((c.toNat : Int) < (48 : Int)) then some x else bif decide ((57 : Int) < (c.toNat : Int)) then some x else some y else some y) =
    some (if lowB c || (decide (i ≠ 0) && okC c) then y else x) := by
  unfold lowB okC
  have e0 : ((i : Int) == (0 : Int)) = decide (i = 0) := by
    by_cases h : i = 0
    · subst h; rfl
    · rw [decide_eq_false h]; exact beq_eq_false_iff_ne.2 (by omega)
  have e1 : ((c.toNat : Int) != (45 : Int)) = !decide (c.toNat = 45) := by
    by_cases h : c.toNat = 45
    · rw [h]; rfl
    · rw [decide_eq_false h]; exact bne_iff_ne.2 (by omega)
  have e2 : decide ((97 : Int) ≤ (c.toNat : Int)) = decide (97 ≤ c.toNat) := decide_eq_decide.2 (by omega)
  have e3 : decide ((c.toNat : Int) ≤ (122 : Int)) = decide (c.toNat ≤ 122) := decide_eq_decide.2 (by omega)
  have e4 : decide ((c.toNat : Int) < (48 : Int)) = !decide (48 ≤ c.toNat) := by rw [← decide_not]; exact decide_eq_decide.2 (by omega)
  have e5 : decide ((57 : Int) < (c.toNat : Int)) = !decide (c.toNat ≤ 57) := by rw [← decide_not]; exact decide_eq_decide.2 (by omega)
  rw [e0, e1, e2, e3, e4, e5, show decide (i ≠ 0) = !decide (i = 0) from decide_not]
  cases decide (97 ≤ c.toNat) <;> cases decide (c.toNat ≤ 122) <;> cases decide (i = 0) <;> cases decide (c.toNat = 45) <;> cases decide (48 ≤ c.toNat) <;> cases decide (c.toNat ≤ 57) <;> rfl
theorem name_eq {l : List UInt8} (hl : l.length ≤ 1000000) : words_Name l = some (nameB l) := by
  unfold words_Name
  have hlen : (bytesI l).length = l.length := by simp [bytesI]
  rw [hlen]
  generalize hG : (fun x_2 : Int => br (decide (x_2 < (l.length : Int))) _ _) = F
  have h0 := name_loop (s := l) F (fun i hi => by
    subst hG
    have hidx : idx (bytesI l) (i : Int) = some ((l[i].toNat : Int)) := by
      rw [idxS_bytes, idxS_nat, List.getElem?_eq_getElem hi]; rfl
    have hadd : addI .i64 (i : Int) (1 : Int) = some ((i : Int) + 1) := addI_ok (by omega)
    simp only [hidx, decide_eq_true (show (i : Int) < (l.length : Int) by omega), br, cond_true, Option.bind_some, hadd]
    exact name_step i l[i] _ _) (by
    subst hG
    dsimp only
    rw [decide_eq_false (by omega)]; rfl) l.length 0 (by omega)
  rw [List.drop_zero] at h0
  simp only [Int.natCast_zero] at h0
  rw [h0]
  unfold nameB
  cases hn : nmA 0 l with
  | false => rfl
  | true =>
    simp only [if_true, Option.bind_some, Bool.true_and]
    have e1 : decide ((1 : Int) ≤ (l.length : Int)) = decide (1 ≤ l.length) := decide_eq_decide.2 (by omega)
    have e2 : decide ((l.length : Int) ≤ (20 : Int)) = decide (l.length ≤ 20) := decide_eq_decide.2 (by omega)
    rw [e1, e2]
    cases decide (1 ≤ l.length) <;> cases decide (l.length ≤ 20) <;> rfl
theorem name_first {l : List UInt8} {o : Nat} (ho : Lib.indexByte l 61 = (o : Int)) (hn : nameB (l.take o) = true) : l[eL l]? = some 61 := by
  obtain ⟨h1, _⟩ := Lib.indexByte_some ho
  unfold nameB at hn
  rw [Bool.and_eq_true] at hn
  have hk := nmA_key hn.1
  have hol : o < l.length := (List.getElem?_eq_some_iff.1 h1).1
  rcases Nat.lt_trichotomy (eL l) o with hlt | heq | hgt
  · have hel : eL l < l.length := by omega
    have hc := List.getElem?_eq_getElem hel
    have hf := (tw_at keyP l).2 _ hc
    have hm : l[eL l] ∈ l.take o := List.mem_of_getElem? (i := eL l) (by rw [List.getElem?_take_of_lt hlt]; exact hc)
    rw [hk _ hm] at hf
    cases hf
  · rw [heq]; exact h1
  · obtain ⟨c, hc, hf⟩ := (tw_at keyP l).1 o hgt
    rw [h1] at hc
    cases hc
    exact absurd hf (by decide)
theorem nameF_eq {l : List UInt8} (hl : l.length ≤ 1000000) : nameF l = some (nameB l) := by
  unfold nameF; rw [if_pos hl, name_eq hl]
end Go.Proofs.YtjcbpfhlgebgdaaDoor
namespace Go.Proofs.YtjcbpfhlgebgdaaDoor
open Go Go.Eng Go.RowKit Go.X Go.Seq
theorem pieces_len (c : UInt8) : ∀ l : List UInt8, (pieces c l).length ≤ l.length + 1
  | [] => Nat.le_refl _
  | x :: l => by
    have := pieces_len c l
    unfold pieces
    split
    · simp; omega
    · split
      · rename_i p ps h
        rw [h] at this
        simp at this ⊢; omega
      · simp
end Go.Proofs.YtjcbpfhlgebgdaaDoor
