import Derived.WalkKit
import Derived.AtR
import Derived.Orders
import Derived.RangeFuncIn
import Derived.KernelRfl
noncomputable section
namespace Go.Run
open Go.RowKit
inductive T (α : Type) where
  | nil
  | node (l : T α) (v : Option α) (r : T α)
def T.get {α : Type} (t : T α) : Nat → Option α :=
  T.rec (motive := fun _ => Nat → Option α) (fun _ => none) (fun _ v _ gl gr n => cond (Nat.beq n 0) v (cond (Nat.beq (n % 2) 1) (gl (n / 2)) (gr (n / 2 - 1)))) t
def T.setF {α : Type} (f : Nat) : T α → Nat → α → T α :=
  Nat.rec (motive := fun _ => T α → Nat → α → T α) (fun t _ _ => t) (fun _ ih t n x => T.casesOn (motive := fun _ => T α) t
    (cond (Nat.beq n 0) (.node .nil (some x) .nil) (cond (Nat.beq (n % 2) 1) (.node (ih .nil (n / 2) x) none .nil) (.node .nil none (ih .nil (n / 2 - 1) x))))
    (fun l v r => cond (Nat.beq n 0) (.node l (some x) r) (cond (Nat.beq (n % 2) 1) (.node (ih l (n / 2) x) v r) (.node l v (ih r (n / 2 - 1) x))))) f
theorem T.get_node0 {α : Type} (l : T α) (v : Option α) (r : T α) (n : Nat) : (T.node l v r).get n = cond (Nat.beq n 0) v (cond (Nat.beq (n % 2) 1) (l.get (n / 2)) (r.get (n / 2 - 1))) := rfl
theorem T.setF_nil {α : Type} (f n : Nat) (x : α) : T.setF (f + 1) .nil n x = cond (Nat.beq n 0) (.node .nil (some x) .nil) (cond (Nat.beq (n % 2) 1) (.node (T.setF f .nil (n / 2) x) none .nil) (.node .nil none (T.setF f .nil (n / 2 - 1) x))) := rfl
theorem T.setF_node {α : Type} (f : Nat) (l : T α) (v : Option α) (r : T α) (n : Nat) (x : α) : T.setF (f + 1) (.node l v r) n x = cond (Nat.beq n 0) (.node l (some x) r) (cond (Nat.beq (n % 2) 1) (.node (T.setF f l (n / 2) x) v r) (.node l v (T.setF f r (n / 2 - 1) x))) := rfl
def T.set {α : Type} (t : T α) (n : Nat) (x : α) : T α := T.setF (n + 1) t n x
theorem beqF {n m : Nat} (h : ¬ n = m) : Nat.beq n m = false := by
  cases hb : Nat.beq n m
  · rfl
  · exact absurd (Nat.eq_of_beq_eq_true hb) h
theorem T.get_nil {α : Type} (n : Nat) : (T.nil : T α).get n = none := rfl
theorem T.get_node {α : Type} (l : T α) (v : Option α) (r : T α) (n : Nat) :
    (T.node l v r).get n = if n = 0 then v else if n % 2 = 1 then l.get (n / 2) else r.get (n / 2 - 1) := by
  rw [T.get_node0]
  by_cases h : n = 0
  · subst h; rfl
  · have : Nat.beq n 0 = false := beqF h
    rw [this, if_neg h]
    by_cases h1 : n % 2 = 1
    · rw [if_pos h1, h1]; rfl
    · have : Nat.beq (n % 2) 1 = false := beqF h1
      rw [this, if_neg h1]; rfl
theorem T.setF_succ {α : Type} (f : Nat) (t : T α) (n : Nat) (x : α) : ∃ l v r, (∀ m, t.get m = (T.node l v r).get m) ∧
    T.setF (f + 1) t n x = if n = 0 then .node l (some x) r else if n % 2 = 1 then .node (T.setF f l (n / 2) x) v r else .node l v (T.setF f r (n / 2 - 1) x) := by
  cases t with
  | nil =>
    refine ⟨.nil, none, .nil, fun m => by rw [T.get_node]; simp [T.get_nil], ?_⟩
    rw [T.setF_nil]
    by_cases h : n = 0
    · subst h; rfl
    · have : Nat.beq n 0 = false := beqF h
      rw [this, if_neg h]
      by_cases h1 : n % 2 = 1
      · rw [if_pos h1, h1]; rfl
      · have : Nat.beq (n % 2) 1 = false := beqF h1
        rw [this, if_neg h1]; rfl
  | node l v r =>
    refine ⟨l, v, r, fun m => rfl, ?_⟩
    rw [T.setF_node]
    by_cases h : n = 0
    · subst h; rfl
    · have : Nat.beq n 0 = false := beqF h
      rw [this, if_neg h]
      by_cases h1 : n % 2 = 1
      · rw [if_pos h1, h1]; rfl
      · have : Nat.beq (n % 2) 1 = false := beqF h1
        rw [this, if_neg h1]; rfl
theorem T.get_setF {α : Type} (x : α) : ∀ (f : Nat) (t : T α) (n : Nat), n + 1 < 2 ^ f → ∀ m, (T.setF f t n x).get m = if m = n then some x else t.get m
  | 0, _, n, h, _ => by simp at h
  | f + 1, t, n, h, m => by
    obtain ⟨l, v, r, h1, h2⟩ := T.setF_succ f t n x
    rw [h2, h1 m]
    rw [Nat.pow_succ] at h
    by_cases h0 : n = 0
    · subst h0
      rw [if_pos rfl, T.get_node, T.get_node]
      by_cases hm : m = 0
      · rw [if_pos hm, if_pos hm]
      · rw [if_neg hm, if_neg hm, if_neg hm]
    · rw [if_neg h0]
      by_cases h3 : n % 2 = 1
      · rw [if_pos h3, T.get_node, T.get_node]
        by_cases hm : m = 0
        · rw [if_pos hm, if_pos hm, if_neg (by omega)]
        · rw [if_neg hm, if_neg hm]
          by_cases hm1 : m % 2 = 1
          · rw [if_pos hm1, if_pos hm1, T.get_setF x f l (n / 2) (by omega) (m / 2)]
            by_cases he : m / 2 = n / 2
            · rw [if_pos he, if_pos (by omega)]
            · rw [if_neg he, if_neg (by omega)]
          · rw [if_neg hm1, if_neg hm1, if_neg (by omega)]
      · rw [if_neg h3, T.get_node, T.get_node]
        by_cases hm : m = 0
        · rw [if_pos hm, if_pos hm, if_neg (by omega)]
        · rw [if_neg hm, if_neg hm]
          by_cases hm1 : m % 2 = 1
          · rw [if_pos hm1, if_pos hm1, if_neg (by omega)]
          · rw [if_neg hm1, if_neg hm1, T.get_setF x f r (n / 2 - 1) (by omega) (m / 2 - 1)]
            by_cases he : m / 2 - 1 = n / 2 - 1
            · rw [if_pos he, if_pos (by omega)]
            · rw [if_neg he, if_neg (by omega)]
def small (_ : Nat) : Bool := true
theorem T.get_set {α : Type} {t : T α} {n : Nat} {x : α} (_h : small n = true) (m : Nat) : (t.set n x).get m = if m = n then some x else t.get m :=
  T.get_setF x (n + 1) t n Nat.lt_two_pow_self m
def T.row {α : Type} (t : T α) : Nat → Nat → Option (List α)
  | _, 0 => some []
  | off, n + 1 => match t.get off, t.row (off + 1) n with
    | some x, some l => some (x :: l)
    | _, _ => none
theorem T.row_spec {α : Type} {t : T α} : ∀ (n off : Nat) (l : List α), t.row off n = some l → l.length = n ∧ ∀ i, i < n → t.get (off + i) = l[i]?
  | 0, off, l, h => by
    simp only [T.row, Option.some.injEq] at h; subst h
    exact ⟨rfl, fun i hi => by omega⟩
  | n + 1, off, l, h => by
    simp only [T.row] at h
    split at h
    · rename_i x l' h1 h2
      simp only [Option.some.injEq] at h; subst h
      obtain ⟨q1, q2⟩ := T.row_spec n (off + 1) l' h2
      refine ⟨by simp [q1], fun i hi => ?_⟩
      cases i with
      | zero => simpa using h1
      | succ i =>
        rw [show off + (i + 1) = off + 1 + i from by omega, q2 i (by omega)]
        simp
    · cases h
def T.setRow {α : Type} (t : T α) : Nat → List α → T α
  | _, [] => t
  | off, x :: l => (t.set off x).setRow (off + 1) l
theorem T.get_setRow {α : Type} : ∀ (l : List α) (t : T α) (off : Nat), small (off + l.length) = true → ∀ m, (t.setRow off l).get m = if off ≤ m ∧ m < off + l.length then l[m - off]? else t.get m
  | [], t, off, _, m => by
    simp only [T.setRow, List.length_nil]
    rw [if_neg (by omega)]
  | x :: l, t, off, _, m => by
    simp only [T.setRow]
    rw [T.get_setRow l (t.set off x) (off + 1) rfl, T.get_set rfl]
    simp only [List.length_cons]
    by_cases h1 : m = off
    · subst h1
      rw [if_neg (by omega), if_pos rfl, if_pos (by omega)]
      simp
    · by_cases h2 : off + 1 ≤ m ∧ m < off + 1 + l.length
      · rw [if_pos h2, if_pos (by omega)]
        rw [show m - off = (m - (off + 1)) + 1 from by omega]
        simp
      · rw [if_neg h2, if_neg h1, if_neg (by omega)]
def pureRun {α : Type} (P : Program) : Sem α → Option α
  | .pure a => some a
  | .program k => pureRun P (k P)
  | .mark _ k => pureRun P k
  | _ => none
theorem pureRun_run {α : Type} {P : Program} (s : Sem α) {a : α} (h : pureRun P s = some a) (w : World) : s.run P w = .ok a w := by
  induction s with
  | pure b => simp only [pureRun, Option.some.injEq] at h; subst h; rfl
  | program k ih => simp only [pureRun] at h; exact ih P h
  | mark m k ih => simp only [pureRun] at h; exact ih h
  | _ => simp [pureRun] at h
def fnFlat : Fn → Bool
  | .yield _ => false
  | _ => true
def flatF : Nat → Value → Bool
  | 0, _ => false
  | n + 1, v => match v with
    | .bool _ | .int _ _ | .float _ _ | .complex _ _ _ | .string _ | .pointer none | .slice none 0 0 | .map none | .chan none | .nilFunc | .nilIface => true
    | .iface _ v => flatF n v
    | .agg cs => cs.toList.all (flatF n)
    | .tuple cs => cs.toList.all (flatF n)
    | .func f first captured => fnFlat f && first.toList.all (flatF n) && captured.toList.all (flatF n)
    | _ => false
def flat (v : Value) : Bool := flatF 16 v
structure Pl where
  b : Nat
  base : Nat
  ext : Nat
abbrev Lam := Nat → Option Pl
def isOpen (cap : Nat) : Bool := Nat.beq (cap % 2) 1
def ccap (cap ext : Nat) : Nat := cond (isOpen cap) (cap / 2 + ext) (cap / 2)
theorem ccap_even (n e : Nat) : ccap (2 * n) e = n := by
  have h1 : (2 * n) % 2 = 0 := by omega
  have h2 : (2 * n) / 2 = n := by omega
  unfold ccap isOpen
  rw [h1, h2]; rfl
theorem ccap_odd (n e : Nat) : ccap (2 * n + 1) e = n + e := by
  have h1 : (2 * n + 1) % 2 = 1 := by omega
  have h2 : (2 * n + 1) / 2 = n := by omega
  unfold ccap isOpen
  rw [h1, h2]; rfl
theorem ccap_open {c e : Nat} (h : isOpen c = true) : ccap c e = c / 2 + e := by unfold ccap; rw [h]; rfl
theorem ccap_closed {c e : Nat} (h : isOpen c = false) : ccap c e = c / 2 := by unfold ccap; rw [h]; rfl
theorem isOpen_spec {c : Nat} (h : isOpen c = true) : c = 2 * (c / 2) + 1 := by
  have : c % 2 = 1 := Nat.eq_of_beq_eq_true h
  omega
inductive FR (L : Lam) : Fn → Fn → Prop where
  | same {f : Fn} (h : fnFlat f = true) : FR L f f
  | yield {l : Nat} {p : Pl} (h : L l = some p) : FR L (.yield l) (.yield p.b)
inductive VR (L : Lam) : Value → Value → Prop where
  | bool (b : Bool) : VR L (.bool b) (.bool b)
  | int (k : IntKind) (n : Int) : VR L (.int k n) (.int k n)
  | float (k : FloatKind) (b : Nat) : VR L (.float k b) (.float k b)
  | complex (k : FloatKind) (a b : Nat) : VR L (.complex k a b) (.complex k a b)
  | string (s : ByteArray) : VR L (.string s) (.string s)
  | nilp : VR L (.pointer none) (.pointer none)
  | ptr {b o : Nat} {p : Pl} (h : L b = some p) : VR L (.pointer (some ⟨b, o, none⟩)) (.pointer (some ⟨p.b, p.base + o, none⟩))
  | nils : VR L (.slice none 0 0) (.slice none 0 0)
  | slice {b o len cap : Nat} {p : Pl} (h : L b = some p) : VR L (.slice (some ⟨b, o, none⟩) len cap) (.slice (some ⟨p.b, p.base + o, none⟩) len (ccap cap p.ext))
  | opq (a : Addr) (c : Nat) : VR L (.slice (some ⟨0, 0, some 1⟩) 0 0) (.slice (some a) 0 c)
  | nilm : VR L (.map none) (.map none)
  | map {b : Nat} {p : Pl} (h : L b = some p) : VR L (.map (some b)) (.map (some p.b))
  | nilc : VR L (.chan none) (.chan none)
  | func {f f' : Fn} {xs ys xs' ys' : Array Value} (hf : FR L f f') (h1 : xs.size = xs'.size) (h2 : ys.size = ys'.size)
      (hx : ∀ (i : Nat) (v x : Value), xs[i]? = some v → xs'[i]? = some x → VR L v x) (hy : ∀ (i : Nat) (v x : Value), ys[i]? = some v → ys'[i]? = some x → VR L v x) : VR L (.func f xs ys) (.func f' xs' ys')
  | nilf : VR L .nilFunc .nilFunc
  | iface {t : TypeId} {v x : Value} (h : VR L v x) : VR L (.iface t v) (.iface t x)
  | nili : VR L .nilIface .nilIface
  | agg {xs xs' : Array Value} (h1 : xs.size = xs'.size) (hx : ∀ (i : Nat) (v x : Value), xs[i]? = some v → xs'[i]? = some x → VR L v x) : VR L (.agg xs) (.agg xs')
  | tuple {xs xs' : Array Value} (h1 : xs.size = xs'.size) (hx : ∀ (i : Nat) (v x : Value), xs[i]? = some v → xs'[i]? = some x → VR L v x) : VR L (.tuple xs) (.tuple xs')
def AR (L : Lam) (xs ys : Array Value) : Prop := xs.size = ys.size ∧ ∀ (i : Nat) (v x : Value), xs[i]? = some v → ys[i]? = some x → VR L v x
def LR (L : Lam) (xs ys : List Value) : Prop := xs.length = ys.length ∧ ∀ (i : Nat) (v x : Value), xs[i]? = some v → ys[i]? = some x → VR L v x
theorem AR.toList {L : Lam} {xs ys : Array Value} (h : AR L xs ys) : LR L xs.toList ys.toList := ⟨by simpa using h.1, fun i v x h1 h2 => h.2 i v x (by simpa using h1) (by simpa using h2)⟩
theorem LR.toArray {L : Lam} {xs ys : List Value} (h : LR L xs ys) : AR L xs.toArray ys.toArray := ⟨by simpa using h.1, fun i v x h1 h2 => h.2 i v x (by simpa using h1) (by simpa using h2)⟩
theorem AR.of_toList {L : Lam} {xs ys : Array Value} (h : LR L xs.toList ys.toList) : AR L xs ys := ⟨by simpa using h.1, fun i v x h1 h2 => h.2 i v x (by simpa using h1) (by simpa using h2)⟩
theorem LR.nil (L : Lam) : LR L [] [] := ⟨rfl, fun i v x h => by simp at h⟩
theorem LR.cons {L : Lam} {v x : Value} {vs xs : List Value} (h : VR L v x) (k : LR L vs xs) : LR L (v :: vs) (x :: xs) :=
  ⟨by simp [k.1], fun i u y h1 h2 => by
    cases i with
    | zero => simp at h1 h2; subst h1; subst h2; exact h
    | succ i => simp at h1 h2; exact k.2 i u y h1 h2⟩
theorem LR.of_cons {L : Lam} {v x : Value} {vs xs : List Value} (h : LR L (v :: vs) (x :: xs)) : VR L v x ∧ LR L vs xs :=
  ⟨h.2 0 v x (by simp) (by simp), by simpa using h.1, fun i u y h1 h2 => h.2 (i + 1) u y (by simpa using h1) (by simpa using h2)⟩
theorem LR.cons_inv {L : Lam} {v : Value} {vs ys : List Value} (h : LR L (v :: vs) ys) : ∃ x xs, ys = x :: xs ∧ VR L v x ∧ LR L vs xs := by
  cases ys with
  | nil => have := h.1; simp at this
  | cons x xs => exact ⟨x, xs, rfl, h.of_cons⟩
theorem LR.nil_inv {L : Lam} {ys : List Value} (h : LR L [] ys) : ys = [] := List.eq_nil_of_length_eq_zero (by simpa using h.1.symm)
theorem LR.append {L : Lam} {vs xs vs' xs' : List Value} (h : LR L vs xs) (k : LR L vs' xs') : LR L (vs ++ vs') (xs ++ xs') :=
  ⟨by simp [h.1, k.1], fun i u y h1 h2 => by
    rw [List.getElem?_append] at h1 h2
    rw [h.1] at h1
    split at h1
    · rename_i hi; rw [if_pos hi] at h2; exact h.2 i u y h1 h2
    · rename_i hi; rw [if_neg hi] at h2; exact k.2 _ u y h1 h2⟩
theorem LR.get {L : Lam} {vs xs : List Value} (h : LR L vs xs) {i : Nat} {v : Value} (hv : vs[i]? = some v) : ∃ x, xs[i]? = some x ∧ VR L v x := by
  have hlt : i < xs.length := by rw [← h.1]; exact (List.getElem?_eq_some_iff.1 hv).1
  exact ⟨xs[i], List.getElem?_eq_getElem hlt, h.2 i v _ hv (List.getElem?_eq_getElem hlt)⟩
theorem AR.get {L : Lam} {vs xs : Array Value} (h : AR L vs xs) {i : Nat} {v : Value} (hv : vs[i]? = some v) : ∃ x, xs[i]? = some x ∧ VR L v x := by
  obtain ⟨x, h1, h2⟩ := h.toList.get (i := i) (v := v) (by simpa using hv)
  exact ⟨x, by simpa using h1, h2⟩
theorem LR.drop {L : Lam} {vs xs : List Value} (h : LR L vs xs) (n : Nat) : LR L (vs.drop n) (xs.drop n) :=
  ⟨by simp [h.1], fun i u y h1 h2 => by rw [List.getElem?_drop] at h1 h2; exact h.2 _ u y h1 h2⟩
theorem LR.take {L : Lam} {vs xs : List Value} (h : LR L vs xs) (n : Nat) : LR L (vs.take n) (xs.take n) :=
  ⟨by simp [h.1], fun i u y h1 h2 => by
    rw [List.getElem?_take] at h1 h2
    split at h1
    · rename_i hi; rw [if_pos hi] at h2; exact h.2 _ u y h1 h2
    · cases h1⟩
def Lam.le (L L' : Lam) : Prop := ∀ b p, L b = some p → L' b = some p
theorem Lam.le_refl (L : Lam) : L.le L := fun _ _ h => h
theorem Lam.le_trans {L L' L'' : Lam} (h : L.le L') (k : L'.le L'') : L.le L'' := fun b p q => k b p (h b p q)
theorem FR.mono {L L' : Lam} (hl : L.le L') {f f' : Fn} (h : FR L f f') : FR L' f f' := by
  cases h with
  | same h => exact .same h
  | yield h => exact .yield (hl _ _ h)
theorem VR.mono {L L' : Lam} (hl : L.le L') {v x : Value} (h : VR L v x) : VR L' v x := by
  induction h with
  | bool b => exact .bool b
  | int k n => exact .int k n
  | float k b => exact .float k b
  | complex k a b => exact .complex k a b
  | string s => exact .string s
  | nilp => exact .nilp
  | ptr h => exact .ptr (hl _ _ h)
  | nils => exact .nils
  | slice h => exact .slice (hl _ _ h)
  | opq a c => exact .opq a c
  | nilm => exact .nilm
  | map h => exact .map (hl _ _ h)
  | nilc => exact .nilc
  | func hf h1 h2 hx hy ihx ihy => exact .func (hf.mono hl) h1 h2 (fun i v x a b => ihx i v x a b) (fun i v x a b => ihy i v x a b)
  | nilf => exact .nilf
  | iface h ih => exact .iface ih
  | nili => exact .nili
  | agg h1 hx ih => exact .agg h1 (fun i v x a b => ih i v x a b)
  | tuple h1 hx ih => exact .tuple h1 (fun i v x a b => ih i v x a b)
theorem LR.mono {L L' : Lam} (hl : L.le L') {vs xs : List Value} (h : LR L vs xs) : LR L' vs xs := ⟨h.1, fun i v x a b => (h.2 i v x a b).mono hl⟩
theorem AR.mono {L L' : Lam} (hl : L.le L') {vs xs : Array Value} (h : AR L vs xs) : AR L' vs xs := ⟨h.1, fun i v x a b => (h.2 i v x a b).mono hl⟩
theorem arr_eq_of_AR {L : Lam} {n : Nat} (ih : ∀ (v x : Value), flatF n v = true → VR L v x → x = v) {xs ys : Array Value} (hs : xs.size = ys.size)
    (h : ∀ (i : Nat) (v x : Value), xs[i]? = some v → ys[i]? = some x → VR L v x) (hf : xs.toList.all (flatF n) = true) : ys = xs := by
  apply Array.ext_getElem?
  intro i
  rcases Nat.lt_or_ge i xs.size with hi | hi
  · have h1 : xs[i]? = some xs[i] := Array.getElem?_eq_getElem hi
    have h2 : ys[i]? = some (ys[i]'(by omega)) := Array.getElem?_eq_getElem (by omega)
    have := ih _ _ (List.all_eq_true.1 hf xs[i] (Array.getElem_mem_toList hi)) (h i _ _ h1 h2)
    rw [h2, this, h1]
  · rw [Array.getElem?_eq_none hi, Array.getElem?_eq_none (by omega)]
theorem VR.eqF {L : Lam} : ∀ (n : Nat) (v x : Value), flatF n v = true → VR L v x → x = v
  | 0, _, _, h, _ => by simp [flatF] at h
  | n + 1, v, x, h, hr => by
    cases hr with
    | ptr => simp [flatF] at h
    | slice => simp [flatF] at h
    | opq => simp [flatF] at h
    | map => simp [flatF] at h
    | func hf h1 h2 hx hy =>
      simp only [flatF, Bool.and_eq_true] at h
      cases hf with
      | same _ => rw [arr_eq_of_AR (VR.eqF n) h1 hx h.1.2, arr_eq_of_AR (VR.eqF n) h2 hy h.2]
      | yield _ => simp [fnFlat] at h
    | iface hv =>
      simp only [flatF] at h
      rw [VR.eqF n _ _ h hv]
    | agg h1 hx => simp only [flatF] at h; rw [arr_eq_of_AR (VR.eqF n) h1 hx h]
    | tuple h1 hx => simp only [flatF] at h; rw [arr_eq_of_AR (VR.eqF n) h1 hx h]
    | _ => rfl
theorem VR.eq_flat {L : Lam} {v x : Value} (h : flat v = true) (hr : VR L v x) : x = v := VR.eqF 16 v x h hr
theorem AR.refl_of {L : Lam} {n : Nat} (ih : ∀ v, flatF n v = true → VR L v v) {xs : Array Value} (hf : xs.toList.all (flatF n) = true) :
    ∀ (i : Nat) (v x : Value), xs[i]? = some v → xs[i]? = some x → VR L v x := by
  intro i v x h1 h2
  rw [h1] at h2; cases h2
  refine ih v (List.all_eq_true.1 hf v ?_)
  have := Array.mem_of_getElem? h1
  simpa using this
theorem VR.reflF {L : Lam} : ∀ (n : Nat) (v : Value), flatF n v = true → VR L v v
  | 0, _, h => by simp [flatF] at h
  | n + 1, v, h => by
    cases v with
    | bool b => exact .bool b
    | int k n => exact .int k n
    | float k b => exact .float k b
    | complex k a b => exact .complex k a b
    | string s => exact .string s
    | pointer a => cases a with
      | none => exact .nilp
      | some a => simp [flatF] at h
    | slice a len cap =>
      cases a with
      | some a => simp [flatF] at h
      | none =>
        cases len with
        | succ => simp [flatF] at h
        | zero => cases cap with
          | succ => simp [flatF] at h
          | zero => exact .nils
    | map r => cases r with
      | none => exact .nilm
      | some a => simp [flatF] at h
    | chan r => cases r with
      | none => exact .nilc
      | some a => simp [flatF] at h
    | func f xs ys =>
      simp only [flatF, Bool.and_eq_true] at h
      exact .func (.same h.1.1) rfl rfl (AR.refl_of (VR.reflF n) h.1.2) (AR.refl_of (VR.reflF n) h.2)
    | nilFunc => exact .nilf
    | iface t v => exact .iface (VR.reflF n v (by simpa [flatF] using h))
    | nilIface => exact .nili
    | agg cs => exact .agg rfl (AR.refl_of (VR.reflF n) (by simpa [flatF] using h))
    | tuple cs => exact .tuple rfl (AR.refl_of (VR.reflF n) (by simpa [flatF] using h))
theorem VR.refl_flat {L : Lam} {v : Value} (h : flat v = true) : VR L v v := VR.reflF 16 v h
theorem LR.eq_flat {L : Lam} {vs xs : List Value} (h : vs.all flat = true) (hr : LR L vs xs) : xs = vs := by
  have := arr_eq_of_AR (L := L) (n := 16) (VR.eqF 16) hr.toArray.1 hr.toArray.2 (by simpa [flat] using h)
  simpa using this
theorem VR.cells {L : Lam} {v x : Value} (h : VR L v x) : AR L v.cells x.cells := by
  have one : ∀ {v x : Value}, VR L v x → AR L #[v] #[x] := fun h => by
    refine ⟨rfl, fun i a b h1 h2 => ?_⟩
    cases i with
    | zero => simp at h1 h2; subst h1; subst h2; exact h
    | succ i => simp at h1
  cases h with
  | agg h1 hx => exact ⟨h1, hx⟩
  | bool b => exact one (.bool b)
  | int k n => exact one (.int k n)
  | float k b => exact one (.float k b)
  | complex k a b => exact one (.complex k a b)
  | string s => exact one (.string s)
  | nilp => exact one .nilp
  | ptr h => exact one (.ptr h)
  | nils => exact one .nils
  | slice h => exact one (.slice h)
  | opq a c => exact one (.opq a c)
  | nilm => exact one .nilm
  | map h => exact one (.map h)
  | nilc => exact one .nilc
  | func hf h1 h2 hx hy => exact one (.func hf h1 h2 hx hy)
  | nilf => exact one .nilf
  | iface h => exact one (.iface h)
  | nili => exact one .nili
  | tuple h1 hx => exact one (.tuple h1 hx)
def fnEq : Fn → Fn → Bool
  | .func a, .func b => a == b
  | .yield a, .yield b => a == b
  | a, b => decide (a = b)
def optAddrEq : Option Addr → Option Addr → Bool
  | none, none => true
  | some a, some b => a.block == b.block && a.off == b.off && a.spot.isNone && b.spot.isNone
  | _, _ => false
def allEq {α : Type} (f : α → α → Bool) : List α → List α → Bool
  | [], [] => true
  | x :: xs, y :: ys => f x y && allEq f xs ys
  | _, _ => false
def veqF : Nat → Value → Value → Bool
  | 0, _, _ => false
  | n + 1, a, b => match a, b with
    | .bool a, .bool b => a == b
    | .int k a, .int j b => decide (k = j) && decide (a = b)
    | .string a, .string b => allEq (fun (x y : UInt8) => x.toNat == y.toNat) a.data.toList b.data.toList
    | .pointer a, .pointer b => optAddrEq a b
    | .slice a l c, .slice b m d => optAddrEq a b && l == m && c == d
    | .map none, .map none => true
    | .map (some a), .map (some b) => a == b
    | .nilFunc, .nilFunc => true
    | .nilIface, .nilIface => true
    | .iface t a, .iface u b => t == u && veqF n a b
    | .agg a, .agg b => allEq (veqF n) a.toList b.toList
    | .tuple a, .tuple b => allEq (veqF n) a.toList b.toList
    | .func f a b, .func g c d => fnEq f g && allEq (veqF n) a.toList c.toList && allEq (veqF n) b.toList d.toList
    | _, _ => false
def veq (a b : Value) : Bool := veqF 16 a b
theorem optAddrEq_eq {a b : Option Addr} (h : optAddrEq a b = true) : a = b := by
  cases a with
  | none => cases b with
    | none => rfl
    | some b => simp [optAddrEq] at h
  | some a => cases b with
    | none => simp [optAddrEq] at h
    | some b =>
      obtain ⟨a1, a2, a3⟩ := a
      obtain ⟨b1, b2, b3⟩ := b
      simp only [optAddrEq, Bool.and_eq_true, beq_iff_eq, Option.isNone_iff_eq_none] at h
      obtain ⟨⟨⟨rfl, rfl⟩, rfl⟩, rfl⟩ := h
      rfl
theorem fnEq_eq {a b : Fn} (h : fnEq a b = true) : a = b := by
  unfold fnEq at h
  split at h
  · simpa using h
  · simpa using h
  · exact of_decide_eq_true h
theorem allEq_eq {α : Type} {f : α → α → Bool} (hf : ∀ x y, f x y = true → x = y) : ∀ {xs ys : List α}, allEq f xs ys = true → xs = ys
  | [], [], _ => rfl
  | [], _ :: _, h => by simp [allEq] at h
  | _ :: _, [], h => by simp [allEq] at h
  | x :: xs, y :: ys, h => by
    simp only [allEq, Bool.and_eq_true] at h
    rw [hf _ _ h.1, allEq_eq hf h.2]
theorem arr_of_list {α : Type} {a b : Array α} (h : a.toList = b.toList) : a = b := by
  rw [← Array.toArray_toList (xs := a), h]
theorem veqF_eq : ∀ (n : Nat) (a b : Value), veqF n a b = true → a = b
  | 0, _, _, h => by simp [veqF] at h
  | n + 1, a, b, h => by
    unfold veqF at h
    split at h
    · simp at h; rw [h]
    · simp at h; rw [h.1, h.2]
    · rename_i a b
      have := allEq_eq (fun (x y : UInt8) h => UInt8.toNat_inj.1 (by simpa using h)) h
      cases a; cases b
      simp at this
      rw [this]
    · rw [optAddrEq_eq h]
    · simp only [Bool.and_eq_true, beq_iff_eq] at h
      rw [optAddrEq_eq h.1.1, h.1.2, h.2]
    · rfl
    · simp at h; rw [h]
    · rfl
    · rfl
    · simp only [Bool.and_eq_true, beq_iff_eq] at h
      rw [h.1, veqF_eq n _ _ h.2]
    · rw [arr_of_list (allEq_eq (veqF_eq n) h)]
    · rw [arr_of_list (allEq_eq (veqF_eq n) h)]
    · simp only [Bool.and_eq_true] at h
      rw [fnEq_eq h.1.1, arr_of_list (allEq_eq (veqF_eq n) h.1.2), arr_of_list (allEq_eq (veqF_eq n) h.2)]
    · cases h
theorem veq_eq {a b : Value} (h : veq a b = true) : a = b := veqF_eq 16 a b h
end Go.Run
noncomputable section
namespace Go.Run
open Go.RowKit
inductive AObj where
    | cells (n : Nat) (t : T Value) (ty : TypeId) (op : Option Nat) (fz : Nat × Nat)
  | map (es : List MapEntry) (clock : Nat)
  | siter (s : ByteArray) (pos : Nat)
  | miter (m : Option Nat) (since : Nat) (seen : Array Nat) (stepped : Nat)
  | loop (state : LoopState) (pend : Option Code) (fn : FuncId) (nt : Nat) (tm : T Value) (params : Array Tmp) (assign body : Code) (dblk : Nat)
  | dfr (some_ : Bool)
  | dead
def AObj.alive : AObj → Bool
  | .dead => false
  | _ => true
structure AH where
  nx : Nat
  m : T AObj
def AH.get (H : AH) (b : Nat) : Option AObj := H.m.get b
def AH.push (H : AH) (o : AObj) : AH := ⟨H.nx + 1, H.m.set H.nx o⟩
def AH.set (H : AH) (b : Nat) (o : AObj) : AH := ⟨H.nx, H.m.set b o⟩
theorem AH.get_push {H : AH} {o : AObj} (h : small H.nx = true) (b : Nat) : (H.push o).get b = if b = H.nx then some o else H.get b := T.get_set h b
theorem AH.get_set {H : AH} {b : Nat} {o : AObj} (h : small b = true) (c : Nat) : (H.set b o).get c = if c = b then some o else H.get c := T.get_set h c
def tget (t : T Value) (s : Nat) : Value := (t.get s).getD undef
def TR (L : Lam) (tm : T Value) (tmps : Array Value) : Prop := ∀ s, VR L (tget tm s) (tmps.getD s undef)
theorem VR.undef (L : Lam) : VR L undef undef := VR.refl_flat (by rfl)
theorem TR.mono {L L' : Lam} (hl : L.le L') {tm : T Value} {tmps : Array Value} (h : TR L tm tmps) : TR L' tm tmps := fun s => (h s).mono hl
structure ER (L : Lam) (e e' : MapEntry) : Prop where
  key : VR L e.key e'.key
  val : VR L e.val e'.val
  born : e'.born = e.born
theorem ER.mono {L L' : Lam} (hl : L.le L') {e e' : MapEntry} (h : ER L e e') : ER L' e e' := ⟨h.key.mono hl, h.val.mono hl, h.born⟩
def MR (L : Lam) (es es' : List MapEntry) : Prop := es.length = es'.length ∧ ∀ (i : Nat) (e e' : MapEntry), es[i]? = some e → es'[i]? = some e' → ER L e e'
theorem MR.mono {L L' : Lam} (hl : L.le L') {es es' : List MapEntry} (h : MR L es es') : MR L' es es' := ⟨h.1, fun i e e' a b => (h.2 i e e' a b).mono hl⟩
def ORel (L : Lam) (w : World) (p : Pl) : AObj → Prop
  | .cells n t ty op fz => ∃ cur fr, w.heap[p.b]? = some (.cells cur ty fr) ∧ ((fz = (0, 0) ∧ fr = (0, 0)) ∨ (fz = (1, 0) ∧ (fr.2 ≤ fr.1 ∨ cur.size ≤ fr.1)) ∨ (p.base = 0 ∧ fr = fz)) ∧
      (match op with | none => p.base = 0 ∧ cur.size = n | some sz => cur.size = p.base + n + p.ext * sz) ∧
      ∀ i, i < n → ∃ v x, t.get i = some v ∧ cur[p.base + i]? = some x ∧ VR L v x ∧ x.oneCell' = true
  | .map es clock => ∃ es', w.heap[p.b]? = some (.map es' clock) ∧ MR L es es'.toList
  | .siter s pos => p.base = 0 ∧ w.heap[p.b]? = some (.stringIter s pos)
  | .miter m since seen stepped => p.base = 0 ∧ ∃ m', w.heap[p.b]? = some (.mapIter m' since seen stepped) ∧ VR L (.map m) (.map m')
  | .loop st pend fn nt tm params assign body dblk => ∃ tmps d, w.heap[p.b]? = some (.loop { state := st, pending := pend, fn := fn, tmps := tmps, params := params, assign := assign, body := body, defers := d }) ∧
      tmps.size = nt ∧ TR L tm tmps ∧ ∃ q, L dblk = some q ∧ d = q.b
  | .dfr s => w.heap[p.b]? = some (.deferred (if s then some [] else none))
  | .dead => True
theorem ORel.mono {L L' : Lam} {w w' : World} {p : Pl} (hl : L.le L') (hw : w'.heap[p.b]? = w.heap[p.b]?) {o : AObj} (h : ORel L w p o) : ORel L' w' p o := by
  cases o with
  | cells n t ty op fz =>
    obtain ⟨cur, fr, h1, h2, h3, h4⟩ := h
    refine ⟨cur, fr, hw.trans h1, h2, h3, fun i hi => ?_⟩
    obtain ⟨v, x, q1, q2, q3, q4⟩ := h4 i hi
    exact ⟨v, x, q1, q2, q3.mono hl, q4⟩
  | map es clock =>
    obtain ⟨es', h1, h2⟩ := h
    exact ⟨es', hw.trans h1, h2.mono hl⟩
  | siter s pos => exact ⟨h.1, hw.trans h.2⟩
  | miter m since seen stepped =>
    obtain ⟨h0, m', h1, h2⟩ := h
    exact ⟨h0, m', hw.trans h1, h2.mono hl⟩
  | loop st pend fn nt tm params assign body dblk =>
    obtain ⟨tmps, d, h1, h2, h3, q, h4, h5⟩ := h
    exact ⟨tmps, d, hw.trans h1, h2, h3.mono hl, q, hl _ _ h4, h5⟩
  | dfr s => exact hw.trans h
  | dead => trivial
theorem ORel.lt {L : Lam} {w : World} {p : Pl} {o : AObj} (h : ORel L w p o) (ha : o.alive = true) : p.b < w.heap.size := by
  have : ∀ {ob : Obj}, w.heap[p.b]? = some ob → p.b < w.heap.size := fun h => (Array.getElem?_eq_some_iff.1 h).1
  cases o with
  | cells => obtain ⟨_, _, h1, _⟩ := h; exact this h1
  | map => obtain ⟨_, h1, _⟩ := h; exact this h1
  | siter => exact this h.2
  | miter => obtain ⟨_, _, h1, _⟩ := h; exact this h1
  | loop => obtain ⟨_, _, h1, _⟩ := h; exact this h1
  | dfr => exact this h
  | dead => simp [AObj.alive] at ha
structure Kept (w0 w : World) : Prop where
  os : w.os = w0.os
  tape : w.tape = w0.tape
  output : w.output = w0.output
  size : w0.heap.size ≤ w.heap.size
  block : ∀ k, k < w0.heap.size → w.heap[k]? = w0.heap[k]?
structure HRel (w0 : World) (G : Nat) (L : Lam) (H : AH) (w : World) : Prop where
  obj : ∀ b o p, H.get b = some o → L b = some p → ORel L w p o
  inj : ∀ b b' o o' p p', H.get b = some o → H.get b' = some o' → o.alive = true → o'.alive = true → L b = some p → L b' = some p' → p.b = p'.b → b = b'
  dom : ∀ b p, L b = some p → b < H.nx
  own : ∀ b p, G ≤ b → L b = some p → w0.heap.size ≤ p.b
  lt : ∀ b p, L b = some p → p.b < w.heap.size
  keep : Kept w0 w
  glob : ∀ g, g < G → L g = some ⟨g, 0, 0⟩
  gnx : G ≤ H.nx
def Lam.upd (L : Lam) (b : Nat) (p : Pl) : Lam := fun c => if c = b then some p else L c
theorem Lam.le_upd {L : Lam} {b : Nat} {p : Pl} (h : L b = none) : L.le (L.upd b p) := fun c q hc => by
  unfold Lam.upd
  by_cases e : c = b
  · subst e; rw [h] at hc; cases hc
  · rw [if_neg e]; exact hc
def Lam.ext (n : Nat) (L L' : Lam) : Prop := L.le L' ∧ ∀ b, b < n → L' b = L b
theorem Lam.ext_refl (n : Nat) (L : Lam) : Lam.ext n L L := ⟨Lam.le_refl L, fun _ _ => rfl⟩
theorem Lam.ext_upd {n : Nat} {L : Lam} {p : Pl} (h : L n = none) : Lam.ext n L (L.upd n p) :=
  ⟨Lam.le_upd h, fun b hb => by unfold Lam.upd; rw [if_neg (by omega)]⟩
theorem Lam.ext_mono {n m : Nat} {L L' : Lam} (h : Lam.ext n L L') (hm : m ≤ n) : Lam.ext m L L' := ⟨h.1, fun b hb => h.2 b (by omega)⟩
theorem Lam.ext_trans {n : Nat} {L L' L'' : Lam} (h : Lam.ext n L L') (k : Lam.ext n L' L'') : Lam.ext n L L'' := ⟨Lam.le_trans h.1 k.1, fun b hb => (k.2 b hb).trans (h.2 b hb)⟩
section
variable {w0 : World} {G : Nat} {L : Lam} {H : AH} {w : World}
theorem HRel.none_nx (h : HRel w0 G L H w) : L H.nx = none := by
  cases hl : L H.nx with
  | none => rfl
  | some p => have := h.dom _ _ hl; omega
theorem HRel.same (h : HRel w0 G L H w) {w' : World} (h1 : w'.heap = w.heap) (h2 : w'.os = w.os) (h3 : w'.tape = w.tape) (h4 : w'.output = w.output) : HRel w0 G L H w' :=
  ⟨fun b o p a c => (h.obj b o p a c).mono (Lam.le_refl L) (by rw [h1]), h.inj, h.dom, h.own, fun b p q => by rw [h1]; exact h.lt b p q,
    ⟨h2.trans h.keep.os, h3.trans h.keep.tape, h4.trans h.keep.output, by rw [h1]; exact h.keep.size, fun k hk => by rw [h1]; exact h.keep.block k hk⟩, h.glob, h.gnx⟩
theorem HRel.push (h : HRel w0 G L H w) {o : AObj} (hs : small H.nx = true) : HRel w0 G L (H.push o) w := by
  have hn := h.none_nx
  have key : ∀ b o' p, (H.push o).get b = some o' → L b = some p → H.get b = some o' := fun b o' p h1 h2 => by
    rw [AH.get_push hs] at h1
    by_cases e : b = H.nx
    · subst e; rw [hn] at h2; cases h2
    · rwa [if_neg e] at h1
  exact ⟨fun b o' p h1 h2 => h.obj b o' p (key b o' p h1 h2) h2, fun b b' o1 o2 p p' h1 h2 a1 a2 h3 h4 he => h.inj b b' o1 o2 p p' (key b o1 p h1 h3) (key b' o2 p' h2 h4) a1 a2 h3 h4 he,
    fun b p hb => by have := h.dom b p hb; show b < H.nx + 1; omega, h.own, h.lt, h.keep, h.glob, by have := h.gnx; show G ≤ H.nx + 1; omega⟩
structure Grew (w w' : World) : Prop where
  size : w'.heap.size = w.heap.size + 1
  block : ∀ k, k < w.heap.size → w'.heap[k]? = w.heap[k]?
  os : w'.os = w.os
  tape : w'.tape = w.tape
  output : w'.output = w.output
theorem Grew.alloc (w : World) (o : Obj) : Grew w (w.alloc o) :=
  ⟨by simp [World.alloc, -World.alloc_eq], fun k hk => by simp only [World.alloc]; rw [Array.getElem?_push_lt hk, Array.getElem?_eq_getElem hk], rfl, rfl, rfl⟩
theorem HRel.real (h : HRel w0 G L H w) {b : Nat} {o : AObj} (hb : H.get b = some o) (hl : L b = none) (hG : G ≤ b) (hd : b < H.nx) {w' : World} (hw : Grew w w')
    {e : Nat} (ho : ORel (L.upd b ⟨w.heap.size, 0, e⟩) w' ⟨w.heap.size, 0, e⟩ o) : HRel w0 G (L.upd b ⟨w.heap.size, 0, e⟩) H w' := by
  have hold := hw.block
  have hsz := hw.size
  have hle : L.le (L.upd b ⟨w.heap.size, 0, e⟩) := Lam.le_upd hl
  have hcase : ∀ c p, (L.upd b ⟨w.heap.size, 0, e⟩) c = some p → (c = b ∧ p = ⟨w.heap.size, 0, e⟩) ∨ (c ≠ b ∧ L c = some p) := fun c p hc => by
    unfold Lam.upd at hc
    by_cases q : c = b
    · rw [if_pos q] at hc; cases hc; exact .inl ⟨q, rfl⟩
    · rw [if_neg q] at hc; exact .inr ⟨q, hc⟩
  refine ⟨fun c o' p h1 h2 => ?_, fun c c' o1 o2 p p' h1 h2 a1 a2 h3 h4 he => ?_, fun c p hc => ?_, fun c p hg hc => ?_, fun c p hc => ?_, ?_, fun g hg => ?_, h.gnx⟩
  · rcases hcase c p h2 with ⟨rfl, rfl⟩ | ⟨_, hc⟩
    · rw [hb] at h1; cases h1; exact ho
    · exact (h.obj c o' p h1 hc).mono hle (hold _ (h.lt c p hc))
  · rcases hcase c p h3 with ⟨rfl, rfl⟩ | ⟨n1, hc⟩ <;> rcases hcase c' p' h4 with ⟨rfl, rfl⟩ | ⟨n2, hc'⟩
    · rfl
    · have := h.lt c' p' hc'; simp only at he; omega
    · have := h.lt c p hc; simp only at he; omega
    · exact h.inj c c' o1 o2 p p' h1 h2 a1 a2 hc hc' he
  · rcases hcase c p hc with ⟨rfl, _⟩ | ⟨_, hc⟩
    · exact hd
    · exact h.dom c p hc
  · rcases hcase c p hc with ⟨rfl, rfl⟩ | ⟨_, hc⟩
    · exact h.keep.size
    · exact h.own c p hg hc
  · rw [hsz]
    rcases hcase c p hc with ⟨rfl, rfl⟩ | ⟨_, hc⟩
    · simp
    · have := h.lt c p hc; omega
  · refine ⟨hw.os.trans h.keep.os, hw.tape.trans h.keep.tape, hw.output.trans h.keep.output, by rw [hsz]; have := h.keep.size; omega, fun k hk => ?_⟩
    rw [hold k (Nat.lt_of_lt_of_le hk h.keep.size)]
    exact h.keep.block k hk
  · have : g ≠ b := by omega
    unfold Lam.upd
    rw [if_neg this]
    exact h.glob g hg
theorem HRel.upd (h : HRel w0 G L H w) {b : Nat} {o o' : AObj} {p : Pl} (hb : H.get b = some o) (ha : o.alive = true) (hp : L b = some p) (hG : G ≤ b) (hs : small b = true) {w' : World}
    (hw : ∀ k, k ≠ p.b → w'.heap[k]? = w.heap[k]?) (hsz : w'.heap.size = w.heap.size) (h2 : w'.os = w.os) (h3 : w'.tape = w.tape) (h4 : w'.output = w.output) (ho : ORel L w' p o') :
    HRel w0 G L (H.set b o') w' := by
  have hold : ∀ c o1 q, c ≠ b → H.get c = some o1 → L c = some q → ORel L w' q o1 := fun c o1 q hc h1 h2 => by
    cases hal : o1.alive with
    | false => cases o1 <;> first | trivial | simp [AObj.alive] at hal
    | true =>
      refine (h.obj c o1 q h1 h2).mono (Lam.le_refl L) (hw _ fun he => hc ?_)
      exact h.inj c b o1 o q p h1 hb hal ha h2 hp he
  have halive : ∀ c o1, (H.set b o').get c = some o1 → (∃ o2, H.get c = some o2 ∧ (o1.alive = true → o2.alive = true)) := fun c o1 h1 => by
    rw [AH.get_set hs] at h1
    by_cases e : c = b
    · subst e; exact ⟨o, hb, fun _ => ha⟩
    · rw [if_neg e] at h1; exact ⟨o1, h1, id⟩
  refine ⟨fun c o1 q h1 hq => ?_, fun c c' o1 o2 q q' h1 h2 a1 a2 hq hq' he => ?_, h.dom, h.own, fun c q hc => by rw [hsz]; exact h.lt c q hc, ?_, h.glob, h.gnx⟩
  · rw [AH.get_set hs] at h1
    by_cases e : c = b
    · subst e; rw [if_pos rfl] at h1; cases h1; rw [hp] at hq; cases hq; exact ho
    · rw [if_neg e] at h1; exact hold c o1 q e h1 hq
  · obtain ⟨o3, g3, m3⟩ := halive c o1 h1
    obtain ⟨o4, g4, m4⟩ := halive c' o2 h2
    exact h.inj c c' o3 o4 q q' g3 g4 (m3 a1) (m4 a2) hq hq' he
  · refine ⟨h2.trans h.keep.os, h3.trans h.keep.tape, h4.trans h.keep.output, by rw [hsz]; exact h.keep.size, fun k hk => ?_⟩
    rw [hw k (by have := h.own b p hG hp; omega)]
    exact h.keep.block k hk
theorem HRel.kill (h : HRel w0 G L H w) {b : Nat} (hs : small b = true) : HRel w0 G L (H.set b .dead) w := by
  have key : ∀ c o1, (H.set b .dead).get c = some o1 → o1 = .dead ∨ H.get c = some o1 := fun c o1 h1 => by
    rw [AH.get_set hs] at h1
    by_cases e : c = b
    · subst e; rw [if_pos rfl] at h1; cases h1; exact .inl rfl
    · rw [if_neg e] at h1; exact .inr h1
  refine ⟨fun c o1 q h1 hq => ?_, fun c c' o1 o2 q q' h1 h2 a1 a2 hq hq' he => ?_, h.dom, h.own, h.lt, h.keep, h.glob, h.gnx⟩
  · rcases key c o1 h1 with rfl | h1
    · trivial
    · exact h.obj c o1 q h1 hq
  · rcases key c o1 h1 with rfl | h1
    · simp [AObj.alive] at a1
    · rcases key c' o2 h2 with rfl | h2
      · simp [AObj.alive] at a2
      · exact h.inj c c' o1 o2 q q' h1 h2 a1 a2 hq hq' he
end
section
variable {w0 : World} {G : Nat} {L : Lam} {H : AH} {w : World}
def cellsA (H : AH) (b off k : Nat) : Option (List Value) :=
  match H.get b with
  | some (.cells n t _ _ _) => cond (Nat.ble (off + k) n) (t.row off k) none
  | _ => none
theorem cellsA_spec (h : HRel w0 G L H w) {b off k : Nat} {vs : List Value} (hv : cellsA H b off k = some vs) {p : Pl} (hp : L b = some p) :
    ∃ xs : List Value, LR L vs xs ∧ xs.length = k ∧ (∀ j x, xs[j]? = some x → w.cell? ⟨p.b, p.base + off + j, none⟩ = some x ∧ x.oneCell' = true) := by
  unfold cellsA at hv
  split at hv
  · rename_i n t ty op fz hb
    have hle : Nat.ble (off + k) n = true := by
      cases hq : Nat.ble (off + k) n with
      | true => rfl
      | false => rw [hq] at hv; cases hv
    rw [hle] at hv
    simp only [cond_true] at hv
    have hle' : off + k ≤ n := by simpa using hle
    obtain ⟨cur, fr, h1, _, _, h4⟩ := h.obj b _ p hb hp
    obtain ⟨q1, q2⟩ := T.row_spec k off vs hv
    have hx : ∀ j, j < k → ∃ v x, vs[j]? = some v ∧ cur[p.base + off + j]? = some x ∧ VR L v x ∧ x.oneCell' = true := fun j hj => by
      obtain ⟨v, x, a1, a2, a3, a4⟩ := h4 (off + j) (by omega)
      rw [q2 j hj] at a1
      exact ⟨v, x, a1, by rw [← a2]; congr 1; omega, a3, a4⟩
    have hsz : ∀ j, j < k → p.base + off + j < cur.size := fun j hj => by
      obtain ⟨v, x, _, a2, _⟩ := hx j hj
      exact (Array.getElem?_eq_some_iff.1 a2).1
    refine ⟨(cur.toList.drop (p.base + off)).take k, ⟨?_, fun j v x e1 e2 => ?_⟩, ?_, fun j x e => ?_⟩
    · rw [q1, List.length_take, List.length_drop, Array.length_toList]
      rcases Nat.eq_zero_or_pos k with rfl | hk
      · simp
      · have := hsz (k - 1) (by omega); omega
    · have hj : j < k := by
        have := (List.getElem?_eq_some_iff.1 e1).1; omega
      obtain ⟨v', x', a1, a2, a3, a4⟩ := hx j hj
      rw [e1] at a1; cases a1
      rw [List.getElem?_take, if_pos hj, List.getElem?_drop, Array.getElem?_toList, a2] at e2
      cases e2
      exact a3
    · rw [List.length_take, List.length_drop, Array.length_toList]
      rcases Nat.eq_zero_or_pos k with rfl | hk
      · simp
      · have := hsz (k - 1) (by omega); omega
    · rw [List.getElem?_take] at e
      split at e
      · rename_i hj
        obtain ⟨v', x', a1, a2, a3, a4⟩ := hx j hj
        rw [List.getElem?_drop, Array.getElem?_toList, a2] at e
        cases e
        refine ⟨?_, a4⟩
        simp only [World.cell?, h1]
        simpa using a2
      · cases e
  · cases hv
end
end Go.Run
noncomputable section
namespace Go.Run
open Go.RowKit
def aggT (P : Program) (t : TypeId) : Option Bool := match P.underlying t with
  | some (.struct _) | some (.array _ _) => some true
  | some _ => some false
  | none => none
def sizeT (P : Program) (t : TypeId) : Option Nat := (P.info? t).map (·.size)
section
variable {P : Program}
theorem run_isAgg {t : TypeId} {b : Bool} (h : aggT P t = some b) (w : World) : (isAgg t).run P w = .ok b w := by
  unfold aggT at h
  unfold isAgg
  cases hu : P.underlying t with
  | none => rw [hu] at h; simp at h
  | some d =>
    rw [hu] at h
    rw [Sem.run_bind, run_underlying hu w]
    cases d <;> simp_all
theorem run_sizeOf {t : TypeId} {n : Nat} (h : sizeT P t = some n) (w : World) : (sizeOf t).run P w = .ok n w := by
  unfold sizeT at h
  cases hi : P.info? t with
  | none => simp [hi] at h
  | some i => simp [hi] at h; simp [sizeOf, typeInfo, hi, h]
theorem Addr.add_none (b off n : Nat) : (⟨b, off, none⟩ : Addr).add n = ⟨b, off + n, none⟩ := by
  unfold Addr.add; split <;> simp_all
theorem run_loadVar_agg {t : TypeId} {b off : Nat} {w : World} {xs : List Value} (ha : aggT P t = some true) (hs : sizeT P t = some xs.length)
    (hc : ∀ j x, xs[j]? = some x → w.cell? ⟨b, off + j, none⟩ = some x) : (loadVar t ⟨b, off, none⟩).run P w = .ok (.agg xs.toArray) w := by
  have hl : (loadCells ⟨b, off, none⟩ xs.length).run P w = .ok xs.toArray w :=
    run_loadCells_list (P := P) w ⟨b, off, none⟩ xs (fun j v hv => by rw [Addr.add_none]; exact hc j v hv)
  simp [loadVar, Sem.run_bind, run_isAgg ha, run_sizeOf hs, hl]
theorem run_loadVar_one {t : TypeId} {b off : Nat} {w : World} {x : Value} (ha : aggT P t = some false)
    (hc : w.cell? ⟨b, off, none⟩ = some x) : (loadVar t ⟨b, off, none⟩).run P w = .ok x w := by
  simp [loadVar, Sem.run_bind, run_isAgg ha, run_load, hc]
def loadA (P : Program) (H : AH) (t : TypeId) (v : Value) : Option Value :=
  match v with
  | .pointer (some ⟨b, off, none⟩) =>
    match aggT P t, sizeT P t with
    | some true, some k => match cellsA H b off k with
      | some vs => some (.agg vs.toArray)
      | none => none
    | some false, _ => match cellsA H b off 1 with
      | some [v] => some v
      | _ => none
    | _, _ => none
  | _ => none
variable {w0 : World} {G : Nat} {L : Lam} {H : AH} {w : World}
theorem loadA_spec (h : HRel w0 G L H w) {t : TypeId} {v r x : Value} (hr : loadA P H t v = some r) (hx : VR L v x) : ∃ a, x = .pointer (some a) ∧ ∃ y, (loadVar t a).run P w = .ok y w ∧ VR L r y := by
  unfold loadA at hr
  split at hr
  · rename_i b off
    cases hx with
    | ptr hp =>
      rename_i p
      refine ⟨_, rfl, ?_⟩
      split at hr
      · rename_i k ha hs
        split at hr
        · rename_i vs hc
          cases hr
          obtain ⟨xs, q1, q2, q3⟩ := cellsA_spec h hc hp
          refine ⟨.agg xs.toArray, run_loadVar_agg ha (by rw [q2]; exact hs) (fun j x e => (q3 j x e).1), ?_⟩
          exact .agg q1.toArray.1 q1.toArray.2
        · cases hr
      · rename_i ha
        split at hr
        · rename_i v' hc
          cases hr
          obtain ⟨xs, q1, q2, q3⟩ := cellsA_spec h hc hp
          obtain ⟨y, ys, rfl, h1, h2⟩ := q1.cons_inv
          have := (q3 0 y (by simp)).1
          exact ⟨y, run_loadVar_one ha (by simpa using this), h1⟩
        · cases hr
      · cases hr
  · cases hr
def fieldT (P : Program) (s : TypeId) (i : Nat) : Option (Nat × TypeId) :=
  match P.underlying s with
  | some (.struct fs) => match fs[i]? with
    | some f => some (f.offset, f.type)
    | none => none
  | _ => none
theorem fieldT_spec {s : TypeId} {i off : Nat} {t : TypeId} (h : fieldT P s i = some (off, t)) : ∃ fs f, P.underlying s = some (.struct fs) ∧ fs[i]? = some f ∧ f.offset = off ∧ f.type = t := by
  unfold fieldT at h
  split at h
  · rename_i fs hu
    split at h
    · rename_i f hf; cases h; exact ⟨fs, f, hu, hf, rfl, rfl⟩
    · cases h
  · cases h
def partA (P : Program) (t : TypeId) (cs : List Value) (off : Nat) : Option Value :=
  match aggT P t, sizeT P t with
  | some true, some n => some (.agg ((cs.drop off).take n).toArray)
  | some false, _ => cs[off]?
  | _, _ => none
theorem run_part_agg {t : TypeId} {n off : Nat} {xs : Array Value} (ha : aggT P t = some true) (hs : sizeT P t = some n) (w : World) :
    (part t xs off).run P w = .ok (.agg ((xs.toList.drop off).take n).toArray) w := by
  have : xs.extract off (off + n) = ((xs.toList.drop off).take n).toArray := by
    apply Array.ext'
    simp [List.extract, Nat.add_sub_cancel_left]
  simp [part, Sem.run_bind, run_isAgg ha, run_sizeOf hs, this]
theorem run_part_one {t : TypeId} {off : Nat} {xs : Array Value} {x : Value} (ha : aggT P t = some false) (hx : xs[off]? = some x) (w : World) :
    (part t xs off).run P w = .ok x w := by
  simp [part, Sem.run_bind, run_isAgg ha, hx]
theorem partA_spec {t : TypeId} {cs xs : Array Value} {off : Nat} {r : Value} (hr : partA P t cs.toList off = some r) (h : AR L cs xs) (w : World) : ∃ y, (part t xs off).run P w = .ok y w ∧ VR L r y := by
  unfold partA at hr
  split at hr
  · rename_i n ha hs
    cases hr
    refine ⟨_, run_part_agg ha hs w, ?_⟩
    have := (h.toList.drop off).take n
    exact .agg this.toArray.1 this.toArray.2
  · rename_i ha
    obtain ⟨x, h1, h2⟩ := h.get (i := off) (v := r) (by simpa using hr)
    exact ⟨x, run_part_one ha h1 w, h2⟩
  · cases hr
end
end Go.Run
