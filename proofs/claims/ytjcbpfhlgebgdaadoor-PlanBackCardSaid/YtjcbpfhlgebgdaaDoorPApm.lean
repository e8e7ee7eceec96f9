import Derived.Test.YtjcbpfhlgebgdaaDoorPApi
import Derived.Test.YtjcbpfhlgebgdaaDoorInsL
import Derived.Test.YtjcbpfhlgebgdaaDoorX9
/- strconv.AppendInt at base 10, as X uses it: a function that is handed a slice of its caller's own. -/
namespace Go.X
open Go.Eng Go.RowKit Go.Proofs Go.Shelf Go.Lib Go.Sort
set_option linter.unusedSimpArgs false
set_option linter.unusedVariables false

variable {P : Program} {ρ : Ren}

def bytesV (l : List Int) : List V := l.map fun x => V.int .u8 x
def bytesC (l : List Int) : List Value := l.map fun x => Value.int .u8 x

theorem RL_bytes (E : Env) : ∀ l : List Int, RL E (bytesV l) (bytesC l)
  | [] => by simp [bytesV, bytesC, RL]
  | x :: l => by
    simp only [bytesV, bytesC, List.map_cons, RL]
    exact ⟨_, _, rfl, by simp [R], RL_bytes E l⟩

theorem bytes_of_RL {E : Env} : ∀ {l : List Int} {ys : List Value}, RL E (bytesV l) ys → ys = bytesC l
  | [], ys, h => by simpa [bytesV, bytesC, RL] using h
  | x :: l, ys, h => by
    simp only [bytesV, List.map_cons, RL] at h
    obtain ⟨y, ys', rfl, h1, h2⟩ := h
    simp only [R] at h1
    rw [bytes_of_RL (l := l) h2, h1]
    rfl

theorem flatC_bytes (l : List Int) : flatC (bytesC l) = bytesC l := by
  unfold flatC bytesC
  induction l with
  | nil => rfl
  | cons x l ih =>
    simp only [List.map_cons, List.flatMap_cons, ih]
    simp [Value.cells]

theorem bytesC_one {l : List Int} {y : Value} (h : y ∈ bytesC l) : y.cells.size = 1 ∧ y.oneCell' = true := by
  obtain ⟨x, _, rfl⟩ := List.mem_map.1 h
  exact ⟨rfl, rfl⟩

/-- What the caller hands over. -/
theorem owns_of {w : World} {pr : Nat → Nat → Prop} {lam : Nat → Option Nat} {M : Nat → Prop} {e : TypeId} (hsz : sizeT P e = some 1) {l : List Int} (hpos : 0 < l.length) {x : Value} (hR : R ⟨w, pr, lam⟩ (.list (bytesV l)) x)
    (hown : Own P M ⟨w, pr, lam⟩ 0 e x) : ∃ g cap, x = .slice (some ⟨g, 0, none⟩) l.length cap ∧ gblock 0 x = some g ∧ w.ownsRow g e 1 x l.length (bytesC l) ∧ g < w.heap.size := by
  simp only [R] at hR
  obtain ⟨base, c, rfl, hle, hm, hrow⟩ := hR
  have hlen : (bytesV l).length = l.length := by simp [bytesV]
  rw [hlen] at hle hown ⊢
  rcases hrow with ⟨_, h⟩ | ⟨g, o, k, rfl, hb⟩
  · omega
  have hgb : gblock 0 (.slice (some ⟨g, o, none⟩) l.length c) = some g := by
    unfold gblock
    simp
    omega
  obtain ⟨_, n', cap', cur, sz', q1, q2, q3, q4, q5⟩ := hown g hgb
  simp only [Value.slice.injEq, Option.some.injEq, Addr.mk.injEq] at q1
  obtain ⟨⟨_, rfl, _⟩, rfl, rfl⟩ := q1
  have hss : sz' = 1 := by
    have : sizeT P e = some sz' := q3
    rw [hsz] at this; cases this; rfl
  subst hss
  change w.heap[g]? = some (.cells cur e (0, 0)) at q2
  obtain ⟨ys, y1, y2, y3⟩ := hb.vals
  have hy := bytes_of_RL y1
  subst hy
  have y2' : ∀ y ∈ bytesC l, y.cells.size = 1 := fun y hy => (bytesC_one hy).1
  have hcur := flatC_cur q2 y2' y3
  rw [flatC_bytes, show (bytesC l).length = l.length from by simp [bytesC]] at hcur
  refine ⟨g, _, rfl, hgb, ⟨by simp [bytesC], .inr ⟨g, _, cur, rfl, Nat.le_refl _, q2, hle, hm, q4, hcur.symm⟩⟩, (Array.getElem?_eq_some_iff.1 q2).1⟩

/-- What it gets back. -/
theorem own_fin {w w' : World} {pr : Nat → Nat → Prop} {lam : Nat → Option Nat} {hb : Option Nat} {B : Nat} {e : TypeId} (hsz : sizeT P e = some 1) {l : List Int} (hpos : 0 < l.length) {v : Value} {n : Nat} (hn : n = l.length)
    (hlt : ∀ b o, pr b o → b < w.heap.size) (hown : w'.ownsRow B e 1 v n (bytesC l)) (hat : ∀ g, v.ownBlock = some g → w.heap.size ≤ g ∨ hb = some g) (hg : w.grownBy w' hb) (hd : DLE w w') :
    ∃ v' pr', Ending.returned v = .returned v' ∧ R ⟨w', pr', lam⟩ (.list (bytesV l)) v' ∧ InRel w' pr' lam [] ∧ LeftM w pr lam hb w' pr' ∧ Own P (fun g => w.heap.size ≤ g ∨ hb = some g) ⟨w', pr', lam⟩ 0 e v' := by
  subst hn
  obtain ⟨hl, ⟨_, h0⟩ | ⟨g', cap', cur', rfl, _, h', hle, hm, hcs, hcells⟩⟩ := hown
  · omega
  have hg' := hat g' rfl
  have hlen' : (bytesV l).length = l.length := by simp [bytesV]
  refine ⟨_, fun b o => (pr b o ∧ hb ≠ some b) ∨ (b = g' ∧ o < l.length), rfl, ?_, fun i B h => by simp at h, ⟨hg.os, hg.tape, hg.output, hd, hg.size, fun k hk _ hh => hg.block k hk (fun e => hh e.symm), fun b o h hh => .inl ⟨h, hh⟩, fun b o h => ?_⟩, fun g hg => ?_⟩
  · simp only [R]
    refine ⟨some ⟨g', 0, none⟩, cap', by rw [hlen'], by rw [hlen']; exact hle, hm, .inr ⟨g', 0, 1, rfl, RR.of_vals (ys := bytesC l) (RL_bytes _ l) (fun y hy => (bytesC_one hy).1) fun j z hz => ?_⟩⟩
    rw [flatC_bytes] at hz
    have hz' := hz
    rw [← hcells, List.getElem?_take] at hz'
    split at hz'
    · rename_i hj
      refine ⟨⟨?_, .inr ⟨rfl, by omega⟩⟩, (bytesC_one (List.mem_of_getElem? hz)).2⟩
      change w'.cell? ⟨g', 0 + j, none⟩ = some z
      rw [cell_of h', Nat.zero_add, ← Array.getElem?_toList]
      exact hz'
    · cases hz'
  · rcases h with ⟨h1, h2⟩ | ⟨rfl, _⟩
    · exact .inl ⟨h1, h2⟩
    · rcases hg' with q | q
      · exact .inr (.inl ⟨q, (Array.getElem?_eq_some_iff.1 h').1⟩)
      · exact .inr (.inr q)
  · have hgg : g = g' := by
      simp only [gblock] at hg
      rw [if_pos (.inl ⟨trivial, by omega⟩)] at hg
      cases hg; rfl
    subst hgg
    refine ⟨hg', _, _, cur', 1, rfl, h', hsz, hcs, fun o ho hp => ?_⟩
    rcases hp with ⟨h1, h2⟩ | ⟨_, h2⟩
    · rcases hg' with q | q
      · have := hlt _ _ h1; omega
      · exact h2 q
    · omega

def digitsI (u : Nat) : List Int := (Lib.decDigits u).map fun d => (d.toNat : Int)

def appIX (l : List Int) (i b : Int) : Option (List Int) := if b = 10 ∧ 0 ≤ i ∧ i < 9223372036854775808 ∧ 1 ≤ l.length ∧ l.length + 21 ≤ 140737488355328 then some (l ++ digitsI i.toNat) else none

theorem bytesC_digits (l : List Int) (u : Nat) : bytesC l ++ Lib.byteCells (Lib.decDigits u) = bytesC (l ++ digitsI u) := by
  simp [bytesC, digitsI, Lib.byteCells]

theorem appI_fnM (L : LaysM.n176 P ρ) (hsz : sizeT P (ρ.t 5) = some 1) (hT : ∀ w pr, HL w pr → Lib.TabIs P w "internal/strconv.uint64pow10" .u64 Lib.pow10Tab) (hD : ∀ w w' : World, DLE w w') (l : List Int) (u : Nat) (h1 : u < 9223372036854775808) (hpos : 0 < l.length) (hlim : l.length + 21 ≤ 140737488355328) :
    FnM P (ρ.f 176) [.list (bytesV l), .int .i64 u, .int .i64 10] [] 0 (ρ.t 5) (.list (bytesV (l ++ digitsI u))) [] := by
  intro w pr lam cargs hl hown hargs hoth hins hinj hlam
  simp only [RL] at hargs
  obtain ⟨x0, ys0, hc, hR0, x1, ys1, rfl, hR1, x2, ys2, rfl, hR2, rfl⟩ := hargs
  have hca : cargs = #[x0, x1, x2] := by rw [← Array.toList_inj]; simpa using hc
  subst hca
  have hx0 : (#[x0, x1, x2] : Array Value).getD 0 undef = x0 := rfl
  rw [hx0] at hown ⊢
  simp only [R] at hR1 hR2
  subst hR1
  subst hR2
  obtain ⟨g, cap, rfl, hgb, hor, hgw⟩ := owns_of (P := P) hsz hpos hR0 hown
  refine (App.appendInt L g l.length u h1 _ (bytesC l) w hor (Nat.le_of_lt hgw) hlim (hT w pr hl)).mono ?_
  rintro en w' ⟨v', rfl, ho, hg, ha⟩
  rw [hgb]
  rw [bytesC_digits] at ho
  exact own_fin hsz (by simp; omega) (by simp [digitsI]) hl.lt ho (fun g' hg' => ha g' hg') hg (hD _ _)

noncomputable def appI_mu (L : LaysM.n176 P ρ) (hgo : isGo P (ρ.f 176) = true) (hsz : sizeT P (ρ.t 5) = some 1) (hT : ∀ w pr, HL w pr → Lib.TabIs P w "internal/strconv.uint64pow10" .u64 Lib.pow10Tab) (hD : ∀ w w' : World, DLE w w') : XMut P where
  f := ρ.f 176
  p := 0
  c := .u8
  e := ρ.t 5
  run := fun args ins K => match args, ins with
    | [.lst .u8 l, .int .i64 i, .int .i64 b], [] => some ((appIX l i b).bind fun l' => K l' [])
    | _, _ => none
  sound := by
    intro β args ins K r h
    split at h
    · rename_i l i b
      simp only [Option.some.injEq] at h
      obtain ⟨l', h1, h2⟩ := bind_some h
      refine ⟨l', [], h2, hgo, ?_, by simp, rfl⟩
      unfold appIX at h1
      split at h1
      · rename_i hc
        simp only [Option.some.injEq] at h1
        subst h1
        obtain ⟨rfl, h0, h9, hp, hlm⟩ := hc
        have hi : i = (i.toNat : Int) := by omega
        have hF := appI_fnM L hsz hT hD l i.toNat (by omega) (by omega) hlm
        rw [← hi] at hF
        exact hF
      · cases h1
    · cases h
end Go.X
