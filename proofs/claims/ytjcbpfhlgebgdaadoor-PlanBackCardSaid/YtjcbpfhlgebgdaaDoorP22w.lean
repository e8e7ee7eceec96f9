import Derived.Test.YtjcbpfhlgebgdaaDoorP22q
import Derived.Test.YtjcbpfhlgebgdaaDoorP22d
import Derived.Test.YtjcbpfhlgebgdaaDoorP22v
/- Decimal numbers as words; contacts of rows that are written so. -/
namespace Go.Proofs.YtjcbpfhlgebgdaaDoor
open Go Go.Eng Go.RowKit Go.X Go.Seq
set_option linter.unusedSimpArgs false
set_option linter.unusedVariables false
theorem num_dec {n : Int} (h0 : 0 ≤ n) (h1 : n ≤ 1099511627776) : words_Number (dec n) = some (n, true) := by
  rw [words_num (by have := field_len ⟨h0, h1⟩; omega), numB_dec h0 (by omega)]
/-- The words of a contact's row. -/
def lw (c : Contact) : List (List UInt8 × List UInt8) := ([], contactT) :: (fields c).map fun n => ([], dec n)
theorem join_lw (c : Contact) : joinW (lw c) ++ [10] = lineB c := by
  simp [joinW, lw, fields, wT, lineB, fieldB, headB, contactT]
theorem lw_ok (c : Contact) : ∀ w ∈ lw c, okW w := by
  intro w hw
  unfold lw at hw
  rcases List.mem_cons.1 hw with rfl | hw
  · exact ⟨.inl rfl, by decide⟩
  · obtain ⟨n, _, rfl⟩ := List.mem_map.1 hw
    exact ⟨.inl rfl, bare_dec n⟩
theorem lw_len {c : Contact} (h : OKC c) : (joinW (lw c)).length ≤ 91 := by
  have h1 := congrArg List.length (join_lw c)
  have k : ∀ n ∈ fields c, (dec n).length ≤ 13 := fun n hn => field_len (field_ok h hn)
  have k1 := k c.From (by simp [fields]); have k2 := k c.To (by simp [fields]); have k3 := k c.Start (by simp [fields])
  have k4 := k c.End (by simp [fields]); have k5 := k c.Rate (by simp [fields]); have k6 := k c.Delay (by simp [fields])
  simp only [List.length_append, List.length_cons, List.length_nil, lineB, fields, fieldB, headB, List.flatMap_cons, List.flatMap_nil] at h1
  omega
/-- A contact is read back from its row. -/
theorem contact_back {c : Contact} (h : OKC c) (a b : Int) : plan_contact (mkRow (b, posW a (lw c))) = some (c, ⟨0, a⟩) := by
  have k : ∀ n ∈ fields c, 0 ≤ n ∧ n ≤ 1099511627776 := fun n hn => field_ok h hn
  have k1 := k c.From (by simp [fields]); have k2 := k c.To (by simp [fields]); have k3 := k c.Start (by simp [fields])
  have k4 := k c.End (by simp [fields]); have k5 := k c.Rate (by simp [fields]); have k6 := k c.Delay (by simp [fields])
  have ww : ∀ n : Int, 0 ≤ n → n ≤ 1099511627776 → wrap64 (min n 2199023255552) = n := fun n h0 h1 => by
    rw [show min n 2199023255552 = n by omega]; exact wrap_small h0 (by omega)
  unfold plan_contact mkRow
  simp only [lw, fields, List.map_cons, List.map_nil, posW]
  rw [contains_any (by simp)]
  simp only [List.any_cons, List.any_nil, decide_true, Bool.not_true, Bool.or_false, Option.bind_some]
  rw [if_pos (by first | exact ⟨rfl, rfl, rfl⟩ | exact ⟨rfl, trivial, rfl⟩ | exact ⟨trivial, trivial, trivial⟩ | simp)]
  simp only [numsF, num_dec k1.1 k1.2, num_dec k2.1 k2.2, num_dec k3.1 k3.2, num_dec k4.1 k4.2, num_dec k5.1 k5.2, num_dec k6.1 k6.2, Option.bind_some, if_true, ww _ k1.1 k1.2, ww _ k2.1 k2.2, ww _ k3.1 k3.2, ww _ k4.1 k4.2, ww _ k5.1 k5.2, ww _ k6.1 k6.2, List.set_cons_zero, List.set_cons_succ]
  rw [show (⟨c.From, c.To, c.Start, c.End, c.Rate, c.Delay⟩ : Contact) = c from rfl, one_w h]
  rfl
theorem posR_at : ∀ (ls : List (List (List UInt8 × List UInt8))) (a : Int) (i : Nat) (l : List (List UInt8 × List UInt8)), ls[i]? = some l → ∃ b, (posR a ls)[i]? = some (b, posW b l)
  | [], a, i, l, h => by simp at h
  | x :: ls, a, 0, l, h => by simp at h; subst h; exact ⟨a, rfl⟩
  | x :: ls, a, i + 1, l, h => posR_at ls _ i l (by simpa using h)
theorem posR_len : ∀ (ls : List (List (List UInt8 × List UInt8))) (a : Int), (posR a ls).length = ls.length
  | [], a => rfl
  | x :: ls, a => by simp [posR, posR_len ls]
theorem back_loop {l : List Contact} {rows : List Row} (hlen : rows.length = l.length) (hl : l.length ≤ 100000) (hrow : ∀ (i : Nat) (h : i < l.length), ∃ y a, rows[i]? = some y ∧ plan_contact y = some (l[i], ⟨0, a⟩)) (f0 : Fault)
    (F : List Contact × Int × Fault → Option (Step (List Contact × Int × Fault) ((List Contact × Fault) ⊕ (List Contact × Fault))))
    (hF : ∀ out i f, F (out, i, f) = br (decide (i < (rows.length : Int))) ((idx rows i).bind fun x_7 => (plan_contact x_7).bind fun p => br (p.2.Err != (0 : Int)) (some (.done (.inl (([] : List Contact), p.2)))) ((app 48 out ([p.1] : List Contact)).bind fun x_10 => (addI .i64 i (1 : Int)).bind fun x_11 => some (.next (x_10, x_11, f)))) (some (.done (.inr (out, f))))) :
    ∀ (k i : Nat), i + k = l.length → iter F (l.take i, (i : Int), f0) = some (.inr (l, f0))
  | 0, i, hi => by
    have : i = l.length := by omega
    subst this
    rw [iter_eq, hF, decide_eq_false (by omega), List.take_length]
    rfl
  | k + 1, i, hi => by
    have hlt : i < l.length := by omega
    obtain ⟨y, a, h1, h2⟩ := hrow i hlt
    have hidx : idx rows (i : Int) = some y := by unfold idx; rw [if_pos (by omega)]; exact h1
    have happ : app 48 (l.take i) [l[i]] = some (l.take (i + 1)) := by
      unfold app
      rw [if_pos (by simp only [List.length_cons, List.length_nil, List.length_take]; omega), List.take_append_getElem hlt]
    rw [iter_eq, hF, decide_eq_true (by omega), hidx]
    simp only [br, cond_true, Option.bind_some, h2, happ, addI_ok (a := (i : Int)) (b := 1) (by omega), bne_self_eq_false, cond_false]
    have ih := back_loop hlen hl hrow f0 F hF k (i + 1) (by omega)
    rw [show (i : Int) + 1 = ((i + 1 : Nat) : Int) by omega]
    exact ih
theorem lines_eq (l : List Contact) : linesT (l.map lw) = l.flatMap lineB := by
  unfold linesT
  induction l with
  | nil => rfl
  | cons c l ih => rw [List.map_cons, List.flatMap_cons, List.flatMap_cons, ih, join_lw]
theorem text_len : ∀ (l : List Contact), (∀ c ∈ l, OKC c) → (l.flatMap lineB).length ≤ l.length * 92
  | [], _ => by simp
  | c :: l, h => by
    have h1 := lw_len (h c (List.mem_cons_self ..))
    have h2 := congrArg List.length (join_lw c)
    have ih := text_len l fun x hx => h x (List.mem_cons_of_mem _ hx)
    simp only [List.length_append, List.length_cons, List.length_nil] at h2
    rw [List.flatMap_cons, List.length_append, List.length_cons]
    omega
/-- A plan is read back from its text. -/
theorem parse_back {l : List Contact} (hv : Valid l) (hl : l.length ≤ 60) : plan_Parse (l.flatMap lineB) = some (l, ⟨0, 0⟩) := by
  have htl := text_len l hv.ok
  have hrows := Rows_back (ls := l.map lw) (fun x hx => by
    obtain ⟨c, hc, rfl⟩ := List.mem_map.1 hx
    exact ⟨by simp [lw], lw_ok c, by have := lw_len (hv.ok c hc); omega⟩) (by rw [lines_eq]; omega)
  rw [lines_eq] at hrows
  unfold plan_Parse
  rw [hrows]
  simp only [Option.bind_some, br, bne_self_eq_false, cond_false]
  have hit := back_loop (l := l) (rows := (posR 0 (l.map lw)).map mkRow) (by simp [posR_len]) (by omega) (fun i hi => by
    obtain ⟨b, hb⟩ := posR_at (l.map lw) 0 i (lw l[i]) (by simp [hi])
    exact ⟨mkRow (b, posW b (lw l[i])), b, by simp [hb], contact_back (hv.ok _ (List.getElem_mem hi)) b b⟩) ⟨0, 0⟩
    (fun s => br (decide (s.2.1 < (((posR 0 (l.map lw)).map mkRow).length : Int))) ((idx ((posR 0 (l.map lw)).map mkRow) s.2.1).bind fun x_7 => (plan_contact x_7).bind fun p => br (p.2.Err != (0 : Int)) (some (.done (.inl (([] : List Contact), p.2)))) ((app 48 s.1 ([p.1] : List Contact)).bind fun x_10 => (addI .i64 s.2.1 (1 : Int)).bind fun x_11 => some (.next (x_10, x_11, s.2.2)))) (some (.done (.inr (s.1, s.2.2))))) (fun out i f => rfl) l.length 0 (by omega)
  simp only [br, Int.natCast_zero, List.take_zero] at hit
  rw [hit]
  simp only [Option.bind_some, Sum.elim_inr, check_w hv (by omega), beq_self_eq_true, cond_true]
end Go.Proofs.YtjcbpfhlgebgdaaDoor
