import Derived.WalkKit
import Derived.Deep.Draws
import Derived.Orders
import Derived.Maps.Own
set_option linter.unusedSimpArgs false
set_option linter.unusedVariables false
namespace Go.Eng
open Go.RowKit
inductive V where
  | any
  | un
  | int (k : IntKind) (n : Int)
  | bool (b : Bool)
  | str (s : List UInt8)
  | agg (cs : List V)
  | tup (vs : List V)
  | loc (i off : Nat)
  | elt (cs : List V) (off : Nat)
  | nilp
  | list (rows : List V)
  | fn (f : Fn) (first captured : List V)
  | nilfn
  | iface (t : TypeId) (v : V)
  | nilif
  | mref (i : Nat)
  | nilm
  | ptr (off : Nat)
  deriving Inhabited
structure Env where
  w : World
  pr : Nat → Nat → Prop
  lam : Nat → Option Nat
def Env.at (E : Env) (b o : Nat) (x : Value) : Prop := E.w.cell? ⟨b, o, none⟩ = some x ∧ E.pr b o
mutual
def R (E : Env) : V → Value → Prop
  | .any, _ => True
  | .un, x => x = undef
  | .int k n, x => x = .int k n
  | .bool b, x => x = .bool b
  | .str s, x => x = .string ⟨s.toArray⟩ ∧ s.length ≤ maxLen
  | .agg cs, x => ∃ xs : List Value, x = .agg xs.toArray ∧ RL E cs xs ∧ ∀ y ∈ xs, y.oneCell' = true
  | .tup cs, x => ∃ xs : List Value, x = .tuple xs.toArray ∧ RL E cs xs
  | .loc i off, x => ∃ b, E.lam i = some b ∧ x = .pointer (some ⟨b, off, none⟩)
  | .elt cs off, x => ∃ b o, x = .pointer (some ⟨b, o + off, none⟩) ∧ RC E b o cs
  | .nilp, x => x = .pointer none
  | .list rows, x => ∃ base cap, x = .slice base rows.length cap ∧ rows.length ≤ cap ∧ cap ≤ maxLen ∧ ((rows = [] ∧ cap = 0) ∨ ∃ b o k, base = some ⟨b, o, none⟩ ∧ RR E b k o rows)
  | .fn f first cap, x => ∃ xs ys : List Value, x = .func f xs.toArray ys.toArray ∧ RL E first xs ∧ RL E cap ys
  | .nilfn, x => x = .nilFunc
  | .iface t v, x => ∃ y, x = .iface t y ∧ R E v y
  | .nilif, x => x = .nilIface
  | .mref i, x => ∃ b, E.lam i = some b ∧ x = .map (some b)
  | .nilm, x => x = .map none
  | .ptr off, x => ∃ b, x = .pointer (some ⟨b, off, none⟩)
def RL (E : Env) : List V → List Value → Prop
  | [], xs => xs = []
  | c :: cs, xs => ∃ y ys, xs = y :: ys ∧ R E c y ∧ RL E cs ys
def RC (E : Env) (b : Nat) (o : Nat) : List V → Prop
  | [] => True
  | c :: cs => (∃ y, E.at b o y ∧ y.oneCell' = true ∧ R E c y) ∧ RC E b (o + 1) cs
def RR (E : Env) (b k : Nat) (o : Nat) : List V → Prop
  | [] => True
  | r :: rs => (∃ y : Value, R E r y ∧ y.cells.size = k ∧ (∀ j z, y.cells[j]? = some z → E.at b (o + j) z ∧ z.oneCell' = true)) ∧ RR E b k (o + k) rs
end
structure Env.Le (E E' : Env) : Prop where
  lam : ∀ i b, E.lam i = some b → E'.lam i = some b
  pr : ∀ b o, E.pr b o → E'.pr b o
  cell : ∀ b o, E.pr b o → E'.w.cell? ⟨b, o, none⟩ = E.w.cell? ⟨b, o, none⟩
theorem Env.Le.trans {E E' E'' : Env} (h : E.Le E') (k : E'.Le E'') : E.Le E'' :=
  ⟨fun i b e => k.lam i b (h.lam i b e), fun b o e => k.pr b o (h.pr b o e), fun b o e => (k.cell b o (h.pr b o e)).trans (h.cell b o e)⟩
theorem Env.Le.at {E E' : Env} (h : E.Le E') {b o : Nat} {x : Value} (ha : E.at b o x) : E'.at b o x :=
  ⟨(h.cell b o ha.2).trans ha.1, h.pr b o ha.2⟩
mutual
theorem R.mono {E E' : Env} (h : E.Le E') : ∀ (v : V) (x : Value), R E v x → R E' v x
  | .any, _, _ => by simp [R]
  | .un, _, q => by simpa [R] using q
  | .int _ _, _, q => by simpa [R] using q
  | .bool _, _, q => by simpa [R] using q
  | .str _, _, q => by simpa [R] using q
  | .agg cs, _, q => by
    simp only [R] at q ⊢
    obtain ⟨xs, e, q, q1⟩ := q
    exact ⟨xs, e, RL.mono h cs xs q, q1⟩
  | .tup cs, _, q => by
    simp only [R] at q ⊢
    obtain ⟨xs, e, q⟩ := q
    exact ⟨xs, e, RL.mono h cs xs q⟩
  | .loc i off, _, q => by
    simp only [R] at q ⊢
    obtain ⟨b, e, q⟩ := q
    exact ⟨b, h.lam _ _ e, q⟩
  | .elt cs off, _, q => by
    simp only [R] at q ⊢
    obtain ⟨b, o, e, q⟩ := q
    exact ⟨b, o, e, RC.mono h b o cs q⟩
  | .nilp, _, q => by simpa [R] using q
  | .list rows, _, q => by
    simp only [R] at q ⊢
    obtain ⟨base, cap, e, hc, hm, q⟩ := q
    refine ⟨base, cap, e, hc, hm, ?_⟩
    rcases q with q | ⟨b, o, k, e2, q⟩
    · exact .inl q
    · exact .inr ⟨b, o, k, e2, RR.mono h b k o rows q⟩
  | .fn f first cap, _, q => by
    simp only [R] at q ⊢
    obtain ⟨xs, ys, e, q1, q2⟩ := q
    exact ⟨xs, ys, e, RL.mono h _ _ q1, RL.mono h _ _ q2⟩
  | .nilfn, _, q => by simpa [R] using q
  | .iface t v, _, q => by
    simp only [R] at q ⊢
    obtain ⟨y, e, q⟩ := q
    exact ⟨y, e, R.mono h v y q⟩
  | .nilif, _, q => by simpa [R] using q
  | .mref i, _, q => by
    simp only [R] at q ⊢
    obtain ⟨b, e, q⟩ := q
    exact ⟨b, h.lam _ _ e, q⟩
  | .nilm, _, q => by simpa [R] using q
  | .ptr _, _, q => by simpa [R] using q
theorem RL.mono {E E' : Env} (h : E.Le E') : ∀ (cs : List V) (xs : List Value), RL E cs xs → RL E' cs xs
  | [], _, q => by simpa [RL] using q
  | c :: cs, _, q => by
    simp only [RL] at q ⊢
    obtain ⟨y, ys, e, q1, q2⟩ := q
    exact ⟨y, ys, e, R.mono h c y q1, RL.mono h cs ys q2⟩
theorem RC.mono {E E' : Env} (h : E.Le E') (b : Nat) : ∀ (o : Nat) (cs : List V), RC E b o cs → RC E' b o cs
  | _, [], _ => by simp [RC]
  | o, c :: cs, q => by
    simp only [RC] at q ⊢
    obtain ⟨⟨y, q0, q3, q1⟩, q2⟩ := q
    exact ⟨⟨y, h.at q0, q3, R.mono h c y q1⟩, RC.mono h b (o + 1) cs q2⟩
theorem RR.mono {E E' : Env} (h : E.Le E') (b k : Nat) : ∀ (o : Nat) (cs : List V), RR E b k o cs → RR E' b k o cs
  | _, [], _ => by simp [RR]
  | o, c :: cs, q => by
    simp only [RR] at q ⊢
    obtain ⟨⟨y, q0, q1, q3⟩, q2⟩ := q
    exact ⟨⟨y, R.mono h c y q0, q1, fun j z hz => ⟨h.at (q3 j z hz).1, (q3 j z hz).2⟩⟩, RR.mono h b k (o + k) cs q2⟩
end
theorem R.old {w w' : World} {pr0 : Nat → Nat → Prop} {lam lam' : Nat → Option Nat} (hl : ∀ i b, lam i = some b → lam' i = some b) (hc : ∀ b o, pr0 b o → w'.cell? ⟨b, o, none⟩ = w.cell? ⟨b, o, none⟩) {v : V} {x : Value} (h : R ⟨w, pr0, lam⟩ v x) : R ⟨w', pr0, lam'⟩ v x :=
  R.mono (E := ⟨w, pr0, lam⟩) (E' := ⟨w', pr0, lam'⟩) ⟨hl, fun _ _ h => h, hc⟩ v x h
def mapTy : Nat := 1000000000
def RM (E : Env) : List V → List MapEntry → Prop
  | [], es => es = []
  | c :: cs, es => ∃ k v e es', c = .tup [k, v] ∧ es = e :: es' ∧ R E k e.key ∧ R E v e.val ∧ RM E cs es'
theorem RM.mono {E E' : Env} (h : E.Le E') : ∀ {cs : List V} {es : List MapEntry}, RM E cs es → RM E' cs es
  | [], _, q => by simpa [RM] using q
  | c :: cs, _, q => by
    simp only [RM] at q ⊢
    obtain ⟨k, v, e, es', h1, h2, h3, h4, h5⟩ := q
    exact ⟨k, v, e, es', h1, h2, h3.mono h, h4.mono h, RM.mono h h5⟩
structure Box where
  cells : List V
  ty : TypeId
structure BoxAt (E : Env) (b : Nat) (B : Box) : Prop where
  cells : B.ty < mapTy → ∃ cur, E.w.heap[b]? = some (.cells cur B.ty (0, 0)) ∧ RL E B.cells cur.toList ∧ ∀ y ∈ cur.toList, y.oneCell' = true
  map : mapTy ≤ B.ty → ∃ es clock, E.w.heap[b]? = some (.map es clock) ∧ RM E B.cells es.toList ∧ MapKept.Stamped es clock
theorem BoxAt.lt {E : Env} {b : Nat} {B : Box} (h : BoxAt E b B) : b < E.w.heap.size := by
  rcases Nat.lt_or_ge B.ty mapTy with q | q
  · obtain ⟨cur, h1, _⟩ := h.cells q
    exact (Array.getElem?_eq_some_iff.1 h1).1
  · obtain ⟨es, clock, h1, _⟩ := h.map q
    exact (Array.getElem?_eq_some_iff.1 h1).1
theorem BoxAt.mono {E E' : Env} (h : E.Le E') {b : Nat} {B : Box} (hb : E'.w.heap[b]? = E.w.heap[b]?) (q : BoxAt E b B) : BoxAt E' b B := by
  refine ⟨fun ht => ?_, fun ht => ?_⟩
  · obtain ⟨cur, h1, h2, h3⟩ := q.cells ht
    exact ⟨cur, hb.trans h1, h2.mono h, h3⟩
  · obtain ⟨es, clock, h1, h2⟩ := q.map ht
    exact ⟨es, clock, hb.trans h1, h2.1.mono h, h2.2⟩
end Go.Eng
