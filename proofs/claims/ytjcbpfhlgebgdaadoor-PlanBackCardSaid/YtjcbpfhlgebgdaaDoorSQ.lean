import Derived.RangeFuncNested
import Derived.RangeFuncBound
import Derived.RangeFuncCalls
import Derived.RangeFuncLeaves
import Derived.Shelf.Abstract
import Derived.Shelf.RegionOpen
import Derived.WalkKit
import Derived.OwnWalkIn
import Derived.TacticsInMore
import Derived.LoopNIn
import Derived.LoopIn
import Derived.Lib.IndexLaws
import Derived.Test.YtjcbpfhlgebgdaaDoorPLayS
import Derived.Test.YtjcbpfhlgebgdaaDoorChecked
import Derived.Test.YtjcbpfhlgebgdaaDoorRS
set_option linter.unusedSimpArgs false
set_option linter.unusedVariables false
namespace Go.Seq
open Go.RowKit Go.Shelf Go.Proofs
attribute [local go_sem] Oper.semAt_some
def pieces (c : UInt8) : List UInt8 → List (List UInt8)
  | [] => [[]]
  | x :: s => if x = c then [] :: pieces c s else match pieces c s with
    | p :: ps => (x :: p) :: ps
    | [] => [[x]]
def bsOf (l : List UInt8) : ByteArray := ⟨l.toArray⟩
def piecesB (c : UInt8) (S : ByteArray) : List ByteArray := (pieces c S.data.toList).map bsOf
theorem pieces_none {c : UInt8} : ∀ {l : List UInt8}, Lib.indexByte l c = -1 → pieces c l = [l]
  | [], _ => rfl
  | x :: l, h => by
    unfold Lib.indexByte at h
    split at h
    · cases h
    · rename_i hx
      split at h
      · rename_i h1
        have := pieces_none (l := l) (by simpa using h1)
        unfold pieces
        rw [if_neg (by simpa using hx), this]
      · have := Lib.indexByte_ge l c
        omega
theorem pieces_some {c : UInt8} : ∀ {l : List UInt8} {o : Nat}, Lib.indexByte l c = o → pieces c l = l.take o :: pieces c (l.drop (o + 1)) ∧ o < l.length
  | [], o, h => by simp [Lib.indexByte] at h
  | x :: l, o, h => by
    unfold Lib.indexByte at h
    split at h
    · rename_i hx
      have : o = 0 := by omega
      subst this
      refine ⟨?_, by simp⟩
      conv => lhs; unfold pieces
      rw [if_pos (by simpa using hx)]
      rfl
    · rename_i hx
      split at h
      · omega
      · rename_i h1
        have hge := Lib.indexByte_ge l c
        have h1' : Lib.indexByte l c ≠ -1 := by simpa using h1
        obtain ⟨o', rfl⟩ : ∃ o', o = o' + 1 := ⟨o - 1, by omega⟩
        obtain ⟨q1, q2⟩ := pieces_some (l := l) (c := c) (o := o') (by omega)
        refine ⟨?_, by simp; omega⟩
        conv => lhs; unfold pieces
        rw [if_neg (by simpa using hx), q1]
        rfl
theorem bs_data (S : ByteArray) : bsOf S.data.toList = S := by cases S; rfl
theorem ext0 (T : ByteArray) (o : Nat) : T.extract 0 o = bsOf (T.data.toList.take o) := by
  apply ByteArray.ext
  rw [← Array.toList_inj]
  simp [bsOf]
theorem ext1 (T : ByteArray) (o : Nat) : T.extract o T.size = bsOf (T.data.toList.drop o) := by
  apply ByteArray.ext
  rw [← Array.toList_inj]
  have e : T.data.toList.length = T.size := Array.length_toList
  simp only [bsOf, ByteArray.data_extract, Array.toList_extract, List.extract_eq_take_drop]
  exact List.take_of_length_le (by rw [List.length_drop]; omega)
theorem cell_of_heap {A B : World} {b : Nat} (h : B.heap[b]? = A.heap[b]?) : B.cell? ⟨b, 0, none⟩ = A.cell? ⟨b, 0, none⟩ := by simp [World.cell?, h]
theorem frozen_of_heap {A B : World} {b : Nat} (h : B.heap[b]? = A.heap[b]?) : B.frozen? ⟨b, 0, none⟩ = A.frozen? ⟨b, 0, none⟩ := by simp [World.frozen?, h]
set_option maxHeartbeats 8000000 in
theorem split1_in {m : Nat} (bsep bs bsave l : Nat) (c : UInt8) (S : ByteArray) (hS : S.size < 4294967281) (J Jx : List ByteArray → World → Prop) (W : World)
    (hd : bs ≠ bsep ∧ bs ≠ bsave) (hJ : ∀ s A B, J s A → Moves (fun k => k = bs) A B → J s B)
    (h1 : W.cell? ⟨bsep, 0, none⟩ = some (.string ⟨#[c]⟩)) (h2 : W.cell? ⟨bs, 0, none⟩ = some (.string S)) (hf : W.frozen? ⟨bs, 0, none⟩ = false) (h3 : W.cell? ⟨bsave, 0, none⟩ = some (.int .i64 0)) (h0 : J [] W)
    (hY : ∀ pre x W1, J pre W1 → pre ++ [x] <+: piecesB c S → YieldAt Fence.wide m Tryd.prog l #[.string x] W1 fun e W' =>
      (e = .returned (.bool true) ∧ J (pre ++ [x]) W' ∧ ∀ k, (k = bs ∨ k = bsep ∨ k = bsave) → W'.heap[k]? = W1.heap[k]?) ∨ (e = .returned (.bool false) ∧ Jx (pre ++ [x]) W')) :
    CallsIn Fence.wide (m + 1) Tryd.prog 180 #[.func (.yield l) #[] #[], .pointer (some ⟨bsep, 0, none⟩), .pointer (some ⟨bs, 0, none⟩), .pointer (some ⟨bsave, 0, none⟩)] W fun e W' => (∃ v, e = .returned v) ∧ (J (piecesB c S) W' ∨ ∃ pre, Jx pre W') := by
  refine callsIn_of_wp Tryd.func180 rfl trivial ?_ rfl
  simp only [Tryd.ntmps180, List.size_toArray, List.length_cons, List.length_nil, Nat.reduceAdd, Nat.reduceSub, Array.replicate_succ, Array.replicate_zero, List.push_toArray, List.append_toArray, List.nil_append, List.cons_append]
  gi_wp2
  gi_loopw [] (fun wr => ∃ (pre : List ByteArray) (T : ByteArray), piecesB c S = pre ++ piecesB c T ∧ T.size ≤ S.size ∧ wr.cell? ⟨bsep, 0, none⟩ = some (.string ⟨#[c]⟩) ∧ wr.cell? ⟨bs, 0, none⟩ = some (.string T) ∧ wr.frozen? ⟨bs, 0, none⟩ = false ∧ wr.cell? ⟨bsave, 0, none⟩ = some (.int .i64 0) ∧ J pre wr)
    (fun wr => match wr.cell? ⟨bs, 0, none⟩ with | some (.string s) => s.size | _ => 0)
  case atStart =>
    exact ⟨[], S, rfl, Nat.le_refl _, h1, h2, hf, h3, h0⟩
  case round =>
    obtain ⟨pre, T, hx, hT, k1, k2, k3, k4, k5⟩ := hrel
    have hge := Lib.indexByte_ge T.data.toList c
    by_cases hi : Lib.indexByte T.data.toList c = -1
    · have hpc : piecesB c T = [T] := by unfold piecesB; rw [pieces_none hi]; simp [bs_data]
      rw [hpc] at hx
      obtain ⟨fn, tmps, assign, body, hy, hR⟩ := hY pre T wr k5 (by rw [hx]; exact List.prefix_refl _)
      gi_wp2_with (refine ⟨trivial, ?_⟩; gi_at_call 182; refine (callsIn_wide.2 (Any.strings_Index_one Tryd.indexI T c _)).mono ?_; rintro e w' ⟨rfl, rfl⟩; rw [hi])
      refine hR.mono ?_
      rintro e W' (⟨rfl, hJ', hk⟩ | ⟨rfl, hJx'⟩)
      · gi_wp2
        go_end0
        refine ⟨⟨_, rfl⟩, .inl ?_⟩
        rw [hx]; exact hJ'
      · gi_wp2
        go_end0
        exact ⟨⟨_, rfl⟩, .inr ⟨_, hJx'⟩⟩
    · obtain ⟨o, ho⟩ : ∃ o : Nat, Lib.indexByte T.data.toList c = o := ⟨(Lib.indexByte T.data.toList c).toNat, by omega⟩
      obtain ⟨q1, q2⟩ := pieces_some ho
      have hpc : piecesB c T = T.extract 0 o :: piecesB c (T.extract (o + 1) T.size) := by
        unfold piecesB
        rw [q1, ext0, ext1]
        rfl
      rw [hpc] at hx
      obtain ⟨fn, tmps, assign, body, hy, hR⟩ := hY pre (T.extract 0 o) wr k5 (by rw [hx]; exact ⟨piecesB c (T.extract (o + 1) T.size), by simp⟩)
      have hTl : T.data.toList.length = T.size := Array.length_toList
      have i1 : ¬ ((o : Int) < 0) := by omega
      have i2 : (o : Int) ≤ (T.size : Int) := by omega
      have i3 : wrap64 (o : Int) = (o : Int) := IntWalk.wrap64_in _ (by omega)
      have i4 : wrap64 ((o : Int) + 1) = ((o + 1 : Nat) : Int) := by rw [IntWalk.wrap64_in _ (by omega)]; omega
      gi_wp2_with (refine ⟨trivial, ?_⟩; gi_at_call 182; refine (callsIn_wide.2 (Any.strings_Index_one Tryd.indexI T c _)).mono ?_; rintro e w' ⟨rfl, rfl⟩; rw [ho])
      refine hR.mono ?_
      rintro e W' (⟨rfl, hJ', hk⟩ | ⟨rfl, hJx'⟩)
      · have c1 := (cell_of_heap (hk bsep (.inr (.inl rfl)))).trans k1
        have c2 := (cell_of_heap (hk bs (.inl rfl))).trans k2
        have c3 := (frozen_of_heap (hk bs (.inl rfl))).trans k3
        have c4 := (cell_of_heap (hk bsave (.inr (.inr rfl)))).trans k4
        have hs1 : (⟨#[c]⟩ : ByteArray).size = 1 := rfl
        gi_wp2
        have hg := grownBy_setCell' W' bs (.string (T.extract (o + 1) T.size))
        have hlt : ∀ b v, W'.cell? ⟨b, 0, none⟩ = some v → b < W'.heap.size := fun b v h => World.block_lt_of_cell? W' _ h
        have hne1 : some bsep ≠ some bs := fun e => hd.1 (by cases e; rfl)
        have hne2 : some bsave ≠ some bs := fun e => hd.2 (by cases e; rfl)
        have hcs : (W'.setCell ⟨bs, 0, none⟩ (.string (T.extract (o + 1) T.size))).cell? ⟨bs, 0, none⟩ = some (.string (T.extract (o + 1) T.size)) := World.cell?_setCell_same' _ _ _ (by rw [c2]; rfl)
        have hsz : (T.extract (o + 1) T.size).size < T.size := by rw [ByteArray.size_extract]; omega
        refine ⟨⟨pre ++ [T.extract 0 o], T.extract (o + 1) T.size, by rw [hx]; simp, by omega, (cell_of_heap (hg.block bsep (hlt _ _ c1) hne1)).trans c1, hcs, by rw [World.frozen?_setCell]; exact c3,
          (cell_of_heap (hg.block bsave (hlt _ _ c4) hne2)).trans c4, hJ _ _ _ hJ' ⟨hg.os, hg.tape, hg.output, hg.size, fun k hk' hne => hg.block k hk' (fun e => hne (by cases e; rfl))⟩⟩, ?_⟩
        rw [hcs, k2]
        exact hsz
      · gi_wp2
        refine bodyPost_ret (results_none rfl _ _ _) rfl ?_
        exact ⟨⟨_, rfl⟩, .inr ⟨_, hJx'⟩⟩
theorem split_seq {m : Nat} {bsep bs bsave : Nat} {c : UInt8} {S : ByteArray} (hS : S.size < 4294967281) {w : World} (hd : bs ≠ bsep ∧ bs ≠ bsave)
    (h1 : w.cell? ⟨bsep, 0, none⟩ = some (.string ⟨#[c]⟩)) (h2 : w.cell? ⟨bs, 0, none⟩ = some (.string S)) (hf : w.frozen? ⟨bs, 0, none⟩ = false) (h3 : w.cell? ⟨bsave, 0, none⟩ = some (.int .i64 0)) :
    SeqZ Fence.wide (m + 1) Tryd.prog 180 #[.pointer (some ⟨bsep, 0, none⟩), .pointer (some ⟨bs, 0, none⟩), .pointer (some ⟨bsave, 0, none⟩)] (fun x : ByteArray => #[.string x]) (fun k => k = bs ∨ k = bsep ∨ k = bsave) (piecesB c S) w := by
  intro l J Jx hJ _ W hW hY h0
  have hlt : ∀ b v, w.cell? ⟨b, 0, none⟩ = some v → W.heap[b]? = w.heap[b]? := fun b v h => hW.block b (World.block_lt_of_cell? w _ h) (fun q => q)
  exact split1_in bsep bs bsave l c S hS J Jx W hd (fun s A B hs hm => hJ s A B hs ⟨hm.os, hm.tape, hm.output, hm.size, fun k hk hz => hm.block k hk fun e => hz (.inl e)⟩)
    ((cell_of_heap (hlt _ _ h1)).trans h1) ((cell_of_heap (hlt _ _ h2)).trans h2) ((frozen_of_heap (hlt _ _ h2)).trans hf) ((cell_of_heap (hlt _ _ h3)).trans h3) h0 hY
theorem pieces_len (c : UInt8) : ∀ l : List UInt8, (pieces c l).length ≤ l.length + 1 ∧ 1 ≤ (pieces c l).length ∧ ∀ p ∈ pieces c l, p.length ≤ l.length
  | [] => by simp [pieces]
  | x :: l => by
    obtain ⟨h1, h2, h3⟩ := pieces_len c l
    unfold pieces
    split
    · refine ⟨by simp; omega, by simp, fun p hp => ?_⟩
      rcases List.mem_cons.1 hp with rfl | hp
      · simp
      · have := h3 p hp; simp; omega
    · split
      · rename_i p ps hq
        rw [hq] at h1 h2 h3
        refine ⟨by simpa using Nat.le_succ_of_le h1, by simp, fun q hq' => ?_⟩
        rcases List.mem_cons.1 hq' with rfl | hq'
        · have := h3 p (by simp); simp; omega
        · have := h3 q (by simp [hq']); simp; omega
      · exact ⟨by simp, by simp, fun p hp => by simp at hp; subst hp; simp⟩
end Go.Seq
