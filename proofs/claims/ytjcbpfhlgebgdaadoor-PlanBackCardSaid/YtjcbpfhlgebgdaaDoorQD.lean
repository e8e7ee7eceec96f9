import Derived.WalkKit
import Derived.OwnWalkIn
import Derived.TacticsInMore
import Derived.LoopNIn
import Derived.LoopIn
import Derived.Shelf.Strings.BuilderK
import Derived.Test.YtjcbpfhlgebgdaaDoorPLayW
import Derived.Test.YtjcbpfhlgebgdaaDoorChecked
namespace Go.Seq
open Go.RowKit Go.Shelf Go.Proofs
structure Fr (s : Nat) (A B : World) : Prop where
  os : B.os = A.os
  tape : B.tape = A.tape
  output : B.output = A.output
  size : A.heap.size ≤ B.heap.size
  block : ∀ k, k < A.heap.size → k ≠ s → B.heap[k]? = A.heap[k]?
theorem Fr.refl (s : Nat) (A : World) : Fr s A A := ⟨rfl, rfl, rfl, Nat.le_refl _, fun _ _ _ => rfl⟩
theorem Fr.trans {s : Nat} {A B C : World} (h : Fr s A B) (k : Fr s B C) : Fr s A C :=
  ⟨k.os.trans h.os, k.tape.trans h.tape, k.output.trans h.output, Nat.le_trans h.size k.size, fun i hi hn => (k.block i (Nat.lt_of_lt_of_le hi h.size) hn).trans (h.block i hi hn)⟩
theorem Fr.of_below {s B : Nat} {A C : World} (h : Below B A C) (hB : A.heap.size ≤ B) : Fr s A C := ⟨h.os, h.tape, h.output, Nat.le_trans (by omega) h.size, fun k hk _ => h.block k (by omega)⟩
structure FrB (s : Nat) (w A B : World) : Prop where
  os : B.os = A.os
  tape : B.tape = A.tape
  output : B.output = A.output
  size : A.heap.size ≤ B.heap.size
  block : ∀ k, k < w.heap.size → k ≠ s → B.heap[k]? = A.heap[k]?
theorem Fr.transB {s : Nat} {w A B : World} (h : Fr s w A) (k : FrB s w A B) : Fr s w B :=
  ⟨k.os.trans h.os, k.tape.trans h.tape, k.output.trans h.output, Nat.le_trans h.size k.size, fun i hi hn => (k.block i hi hn).trans (h.block i hi hn)⟩
theorem Fr.of_below' {s B : Nat} {w A C : World} (h : Below B A C) (hB : w.heap.size ≤ B) : FrB s w A C := ⟨h.os, h.tape, h.output, h.size, fun k hk _ => h.block k (by omega)⟩
def Bx (s : Nat) (S : ByteArray) (W : World) (p : Int) : Prop := W.heap[s]? = some (.cells #[.string S, .int .i64 p] 226 (0, 0))
def qF (len : Int) (nx : Int → Option (Int × Int)) (es : Int → Option ((Int × Bool) × Int)) : Nat → List UInt8 → Int → Option ((List UInt8 × Bool) × Int)
  | 0, _, _ => none
  | k + 1, acc, p => if p < len then (nx p).bind fun r =>
      if r.1 = 34 then some ((acc, true), r.2)
      else if r.1 = 92 then (es r.2).bind fun e => if e.1.2 then qF len nx es k (acc ++ [UInt8.ofNat e.1.1.toNat]) e.2 else some (([], false), e.2)
      else if 32 ≤ r.1 ∧ r.1 < 127 then qF len nx es k (acc ++ [UInt8.ofNat r.1.toNat]) r.2 else some (([], false), r.2)
    else some (([], false), p)
theorem isb_fr {s N : Nat} {bs : List Value} {A B : World} (h : Lib.IsBuilderF 115 5 N N bs A) (hf : Fr s A B) (hs : s < N) : Lib.IsBuilderF 115 5 N N bs B := by
  have key : ∀ p, Lib.BuilderAtF 115 5 N N p bs A → Lib.BuilderAtF 115 5 N N p bs B := by
    rintro p ⟨h1, v, h2, ⟨hl, h0 | ⟨g, cap, cur, fz, hv, hb, hg, r⟩⟩, h4⟩
    · exact ⟨h1, v, (hf.block N (Array.getElem?_eq_some_iff.1 h2).1 (by omega)).trans h2, ⟨hl, .inl h0⟩, h4⟩
    · exact ⟨h1, v, (hf.block N (Array.getElem?_eq_some_iff.1 h2).1 (by omega)).trans h2, ⟨hl, .inr ⟨g, cap, cur, fz, hv, hb, (hf.block g (Array.getElem?_eq_some_iff.1 hg).1 (by omega)).trans hg, r⟩⟩, h4⟩
  exact h.imp (key _) (key _)
theorem bx_below {s : Nat} {S : ByteArray} {A B : World} {p : Int} (h : Bx s S A p) {N : Nat} (hb : Below N A B) (hs : s < N) : Bx s S B p := (hb.block s hs).trans h
theorem bx_cell {s : Nat} {S : ByteArray} {A : World} {p : Int} (h : Bx s S A p) : A.cell? ⟨s, 1, none⟩ = some (.int .i64 p) := by
  have h' : A.heap[s]? = some (.cells #[.string S, .int .i64 p] 226 (0, 0)) := h
  simp [World.cell?, h']
theorem bytes_snoc (acc : List UInt8) {c : Int} (h0 : 0 ≤ c) (h1 : c < 256) : Lib.byteCells (acc ++ [UInt8.ofNat c.toNat]) = Lib.byteCells acc ++ [.int .u8 c] := by
  have : ((UInt8.ofNat c.toNat).toNat : Int) = c := by rw [UInt8.toNat_ofNat']; omega
  simp only [Lib.byteCells, List.map_append, List.map_cons, List.map_nil]
  rw [this]
theorem sb_extra : Go.Proofs.Builder.Extra Tryd.prog Tryd.bsI_ren where
  sizeBuilder := by kernel_rfl
  liesBuilder := by kernel_rfl
  t5 := Tryd.underlying5
  a5 := Tryd.isAgg5
  z5 := Tryd.sizeOf5
  v5 := Tryd.zeroValue5
  infoByte := by kernel_rfl
  cellsByte := by kernel_rfl
  sizeByte := by kernel_rfl
  neB5 := by decide
theorem wb_extra : Go.Proofs.Builder.Extra Tryd.prog Tryd.wbI_ren where
  sizeBuilder := by kernel_rfl
  liesBuilder := by kernel_rfl
  t5 := Tryd.underlying5
  a5 := Tryd.isAgg5
  z5 := Tryd.sizeOf5
  v5 := Tryd.zeroValue5
  infoByte := by kernel_rfl
  cellsByte := by kernel_rfl
  sizeByte := by kernel_rfl
  neB5 := by decide
set_option maxRecDepth 20000 in
set_option maxHeartbeats 8000000 in
theorem quoted_in (s : Nat) (S : ByteArray) (len : Int) (hlen : len = S.size) (nx : Int → Option (Int × Int)) (es : Int → Option ((Int × Bool) × Int)) (w : World) (hsw : s < w.heap.size)
    (hM : ∀ W p, Fr s w W → Bx s S W p → Calls Tryd.prog 161 #[.pointer (some ⟨s, 0, none⟩)] W fun e W' => e = .returned (.bool (decide (p < len))) ∧ Bx s S W' p ∧ Fr s W W')
    (hN : ∀ W p c p', Fr s w W → Bx s S W p → nx p = some (c, p') → Calls Tryd.prog 220 #[.pointer (some ⟨s, 0, none⟩)] W fun e W' => e = .returned (.int .u8 c) ∧ Bx s S W' p' ∧ Fr s W W')
    (hE : ∀ W p c b p', Fr s w W → Bx s S W p → es p = some ((c, b), p') → Calls Tryd.prog 219 #[.pointer (some ⟨s, 0, none⟩)] W fun e W' => e = .returned (.tuple #[.int .u8 c, .bool b]) ∧ Bx s S W' p' ∧ Fr s W W')
    (hNp : ∀ p c p', p < len → nx p = some (c, p') → p < p' ∧ p' ≤ len ∧ 0 ≤ c ∧ c < 256) (hEp : ∀ p c b p', es p = some ((c, b), p') → p ≤ len → p ≤ p' ∧ p' ≤ len ∧ 0 ≤ c ∧ c < 256)
    (hS : S.size ≤ 1000000) (p0 : Int) (hp0 : 0 ≤ p0 ∧ p0 ≤ len) (h0 : Bx s S w p0) (k : Nat) (acc : List UInt8) (ok : Bool) (p1 : Int) (hq : qF len nx es k [] p0 = some ((acc, ok), p1)) :
    Calls Tryd.prog 207 #[.pointer (some ⟨s, 0, none⟩)] w fun e W' => e = .returned (.tuple #[.string ⟨acc.toArray⟩, .bool ok]) ∧ Bx s S W' p1 ∧ Fr s w W' := by
  go_enter Tryd.func207, Tryd.ntmps207
  go_wp2
  obtain ⟨N, hN0⟩ : ∃ N, w.heap.size = N := ⟨_, rfl⟩
  simp only [hN0]
  go_loopw [] (fun wr => ∃ (k : Nat) (acc' : List UInt8) (p : Int), Bx s S wr p ∧ qF len nx es k acc' p = some ((acc, ok), p1) ∧ Lib.IsBuilderF 115 5 N N (Lib.byteCells acc') wr ∧ Fr s w wr ∧ N + 1 ≤ wr.heap.size ∧ (acc'.length : Int) ≤ p ∧ p ≤ len)
    (fun wr => match wr.cell? ⟨s, 1, none⟩ with | some (.int _ p) => (len - p).toNat | _ => 0)
  case atStart =>
    have hsz : (w.alloc (.cells #[.pointer none, .slice none 0 0] 115)).heap.size = N + 1 := by simp [hN0]
    refine ⟨k, [], p0, (Below.heap_alloc _ _ _ hsw).trans h0, hq, by rw [← hN0]; exact Lib.IsBuilderF.of (Lib.fresh_isBuilder _ _ _), ⟨rfl, rfl, rfl, by omega, fun j hj _ => Below.heap_alloc _ _ _ hj⟩, by omega, by simpa using hp0.1, hp0.2⟩
  case round =>
    obtain ⟨k', acc', p, i1, i2, i3, i4, i5, i6, i7⟩ := hrel
    have hcell := bx_cell i1
    by_cases hpl : p < len
    · cases k' with
      | zero => cases i2
      | succ k' =>
      rw [qF, if_pos hpl] at i2
      cases hnx : nx p with
      | none => rw [hnx] at i2; cases i2
      | some r =>
      obtain ⟨c, p'⟩ := r
      rw [hnx] at i2
      simp only [Option.bind_some] at i2
      obtain ⟨n1, n2, n3, n4⟩ := hNp p c p' hpl hnx
      by_cases h34 : c = 34
      · rw [if_pos h34] at i2
        go_wp2_with (first
          | (go_at_call 161; refine (hM wr p i4 i1).mono ?_; rintro e W1 ⟨rfl, x1, x2⟩; rw [decide_eq_true hpl])
          | (go_at_call 220; refine (hN W1 p c p' (i4.trans x2) x1 hnx).mono ?_; rintro e W2 ⟨rfl, y1, y2⟩; have i3' := isb_fr (isb_fr i3 x2 (by omega)) y2 (by omega); have z2 := x2.size; have z3 := y2.size)
          | (go_at_call 78; refine (Any.Builder_String_any_k Tryd.bsI sb_extra N N acc' W2 i3' (by omega)).mono ?_; rintro e W3 ⟨rfl, v1, v2, v3⟩))
        simp only [Option.some.injEq, Prod.mk.injEq] at i2
        obtain ⟨⟨rfl, rfl⟩, rfl⟩ := i2
        go_ret2
        exact ⟨rfl, bx_below y1 v2 (by omega), ((i4.trans x2).trans y2).transB (Fr.of_below' v2 (by omega))⟩
      · rw [if_neg h34] at i2
        by_cases h92 : c = 92
        · rw [if_pos h92] at i2
          cases hes : es p' with
          | none => rw [hes] at i2; cases i2
          | some e =>
          obtain ⟨⟨d, b⟩, p2⟩ := e
          rw [hes] at i2
          simp only [Option.bind_some] at i2
          obtain ⟨m1, m2, m3, m4⟩ := hEp p' d b p2 hes (by omega)
          cases b with
          | true =>
            rw [if_pos rfl] at i2
            go_wp2_with (first
              | (go_at_call 161; refine (hM wr p i4 i1).mono ?_; rintro e W1 ⟨rfl, x1, x2⟩; rw [decide_eq_true hpl])
              | (go_at_call 220; refine (hN W1 p c p' (i4.trans x2) x1 hnx).mono ?_; rintro e W2 ⟨rfl, y1, y2⟩; have i3' := isb_fr (isb_fr i3 x2 (by omega)) y2 (by omega); have z2 := x2.size; have z3 := y2.size)
              | (go_at_call 219; refine (hE W2 p' d true p2 ((i4.trans x2).trans y2) y1 hes).mono ?_; rintro e W4 ⟨rfl, q1, q2⟩; have i3'' := isb_fr i3' q2 (by omega); have z4 := q2.size)
              | (go_at_call 75; refine (Any.Builder_WriteByte_k Tryd.wbI wb_extra N N (Lib.byteCells acc') d W4 i3'' (by rw [Lib.byteCells_length]; omega) (by omega)).mono ?_; rintro e W3 ⟨rfl, v1, v2, v3⟩))
            go_roundw
            case rel =>
              exact ⟨k', acc' ++ [UInt8.ofNat d.toNat], p2, bx_below q1 v2 (by omega), i2, by rw [bytes_snoc _ m3 m4]; exact .inr v1, (((i4.trans x2).trans y2).trans q2).transB (Fr.of_below' v2 (by omega)), by have := v2.size; omega, by simp; omega, m2⟩
            case measure =>
              rw [hcell, bx_cell (bx_below q1 v2 (by omega))]
              show (len - p2).toNat < (len - p).toNat
              omega
          | false =>
            rw [if_neg (by simp)] at i2
            go_wp2_with (first
              | (go_at_call 161; refine (hM wr p i4 i1).mono ?_; rintro e W1 ⟨rfl, x1, x2⟩; rw [decide_eq_true hpl])
              | (go_at_call 220; refine (hN W1 p c p' (i4.trans x2) x1 hnx).mono ?_; rintro e W2 ⟨rfl, y1, y2⟩)
              | (go_at_call 219; refine (hE W2 p' d false p2 ((i4.trans x2).trans y2) y1 hes).mono ?_; rintro e W4 ⟨rfl, q1, q2⟩))
            simp only [Option.some.injEq, Prod.mk.injEq] at i2
            obtain ⟨⟨rfl, rfl⟩, rfl⟩ := i2
            go_ret2
            exact ⟨rfl, q1, ((i4.trans x2).trans y2).trans q2⟩
        · rw [if_neg h92] at i2
          by_cases hpr : 32 ≤ c ∧ c < 127
          · rw [if_pos hpr] at i2
            obtain ⟨hp1, hp2⟩ := hpr
            go_wp2_with (first
              | (go_at_call 161; refine (hM wr p i4 i1).mono ?_; rintro e W1 ⟨rfl, x1, x2⟩; rw [decide_eq_true hpl])
              | (go_at_call 220; refine (hN W1 p c p' (i4.trans x2) x1 hnx).mono ?_; rintro e W2 ⟨rfl, y1, y2⟩; have i3' := isb_fr (isb_fr i3 x2 (by omega)) y2 (by omega); have z2 := x2.size; have z3 := y2.size)
              | (go_at_call 75; refine (Any.Builder_WriteByte_k Tryd.wbI wb_extra N N (Lib.byteCells acc') c W2 i3' (by rw [Lib.byteCells_length]; omega) (by omega)).mono ?_; rintro e W3 ⟨rfl, v1, v2, v3⟩))
            all_goals (try omega)
            go_roundw
            case rel =>
              exact ⟨k', acc' ++ [UInt8.ofNat c.toNat], p', bx_below y1 v2 (by omega), i2, by rw [bytes_snoc _ n3 n4]; exact .inr v1, ((i4.trans x2).trans y2).transB (Fr.of_below' v2 (by omega)), by have := v2.size; omega, by simp; omega, n2⟩
            case measure =>
              rw [hcell, bx_cell (bx_below y1 v2 (by omega))]
              show (len - p').toNat < (len - p).toNat
              omega
          · rw [if_neg hpr] at i2
            simp only [Option.some.injEq, Prod.mk.injEq] at i2
            obtain ⟨⟨rfl, rfl⟩, rfl⟩ := i2
            by_cases h32 : 32 ≤ c
            · have h127 : ¬ c < 127 := fun h => hpr ⟨h32, h⟩
              go_wp2_with (first
                | (go_at_call 161; refine (hM wr p i4 i1).mono ?_; rintro e W1 ⟨rfl, x1, x2⟩; rw [decide_eq_true hpl])
                | (go_at_call 220; refine (hN W1 p c p' (i4.trans x2) x1 hnx).mono ?_; rintro e W2 ⟨rfl, y1, y2⟩))
              all_goals first
                | (go_ret2; exact ⟨rfl, y1, (i4.trans x2).trans y2⟩)
                | (exfalso; have hh := ‹(!decide (c < 127)) = false›; simp at hh; omega)
            · go_wp2_with (first
                | (go_at_call 161; refine (hM wr p i4 i1).mono ?_; rintro e W1 ⟨rfl, x1, x2⟩; rw [decide_eq_true hpl])
                | (go_at_call 220; refine (hN W1 p c p' (i4.trans x2) x1 hnx).mono ?_; rintro e W2 ⟨rfl, y1, y2⟩))
              all_goals (try omega)
              go_ret2
              exact ⟨rfl, y1, (i4.trans x2).trans y2⟩
    · cases k' with
      | zero => cases i2
      | succ k' =>
      rw [qF, if_neg hpl] at i2
      simp only [Option.some.injEq, Prod.mk.injEq] at i2
      obtain ⟨⟨rfl, rfl⟩, rfl⟩ := i2
      go_wp2_with (go_at_call 161; refine (hM wr p i4 i1).mono ?_; rintro e W1 ⟨rfl, x1, x2⟩; rw [decide_eq_false hpl])
      go_ret2
      exact ⟨rfl, x1, i4.trans x2⟩
end Go.Seq
