import Derived.Test.YtjcbpfhlgebgdaaE7
import Derived.Great.FillDense
import Derived.Great.BuildSlice
import Derived.Lib.ConvBytes
set_option linter.unusedSimpArgs false
set_option linter.unusedVariables false
namespace Go.Eng
open Go.RowKit
section
variable {P : Program} {o : Oper} {ρ : Operand → V} {bx : Nat → Option Box}
theorem bytesT_run {e : TypeId} {n : Nat} (h : sizeT P e = some n) : ∃ i, P.info? e = some i ∧ i.size = n := by
  unfold sizeT at h
  cases hi : P.info? e with
  | none => simp [hi] at h
  | some i => simp [hi] at h; exact ⟨i, rfl, h⟩
theorem R_newRow {w w' : World} {pr : Nat → Nat → Prop} {lam : Nat → Option Nat} {rows : List V} {ys : List Value} {arr : Array Value} {e : TypeId} {fz : Nat × Nat} {cap sz : Nat}
    (hlt : ∀ b o, pr b o → b < w.heap.size) (hbel : Below w.heap.size w w') (hdl : DLE w w') (hlt' : w.heap.size < w'.heap.size) (hg : w'.heap[w.heap.size]? = some (.cells arr e fz)) (hr : RL ⟨w, pr, lam⟩ rows ys) (hs : ∀ y ∈ ys, y.cells.size = sz) (h1 : ∀ z ∈ flatC ys, z.oneCell' = true)
    (hc : ∀ (j : Nat) z, (flatC ys)[j]? = some z → arr[j]? = some z) (hcap : rows.length ≤ cap) (hm : cap ≤ maxLen) :
    Ext w pr w' (fun b o => pr b o ∨ (b = w.heap.size ∧ o < (flatC ys).length)) ∧
    R ⟨w', fun b o => pr b o ∨ (b = w.heap.size ∧ o < (flatC ys).length), lam⟩ (.list rows) (.slice (some ⟨w.heap.size, 0, none⟩) rows.length cap) := by
  have hext : Ext w pr w' (fun b o => pr b o ∨ (b = w.heap.size ∧ o < (flatC ys).length)) := Ext.protect w pr w' hbel hdl _ (fun b o hp => by rw [hp.1]; omega)
  refine ⟨hext, ?_⟩
  have hle := hext.le (lam := lam) hlt
  simp only [R]
  refine ⟨some ⟨w.heap.size, 0, none⟩, cap, rfl, hcap, hm, .inr ⟨w.heap.size, 0, sz, rfl, RR.of_vals (hr.mono hle) hs fun j z hz => ?_⟩⟩
  rw [Nat.zero_add]
  have hj : j < (flatC ys).length := (List.getElem?_eq_some_iff.1 hz).1
  refine ⟨⟨?_, .inr ⟨rfl, hj⟩⟩, h1 z (List.mem_of_getElem? hz)⟩
  simpa [World.cell?, hg] using hc j z hz
theorem RL_rowsOK {E : Env} {sz : Nat} : ∀ {rows : List V} {ys : List Value}, RL E rows ys → rowsOK sz rows → (∀ y ∈ ys, y.cells.size = sz) ∧ (∀ z ∈ flatC ys, z.oneCell' = true)
  | [], ys, h, _ => by simp only [RL] at h; subst h; simp [flatC]
  | r :: rs, ys, h, hr => by
    simp only [RL] at h
    obtain ⟨y, ys, rfl, h1, h⟩ := h
    obtain ⟨q1, q2⟩ := RL_rowsOK h fun r' hr' => hr r' (by simp [hr'])
    have hc := hr r (by simp)
    obtain ⟨_, r2⟩ := h1.cells hc
    refine ⟨fun z hz => ?_, fun z hz => ?_⟩
    · rcases List.mem_cons.1 hz with rfl | hz
      · exact h1.csize hc
      · exact q1 z hz
    · simp only [flatC, List.flatMap_cons, List.mem_append] at hz
      rcases hz with hz | hz
      · exact r2 z hz
      · exact q2 z hz
theorem Own.full {N : Nat → Prop} {E : Env} {c : Nat} {e : TypeId} {b : Option Addr} : Own P N E c e (.slice b 0 0) := by
  intro g hg
  exfalso
  cases b <;> simp [gblock] at hg
theorem qv_buildSlice {t e : TypeId} {len sz : Nat} {parts : Array (Nat × Operand)} {zv : V} (ho : o.op = .buildSlice t len parts) (ht : P.underlying t = some (.slice e)) (hs : sizeT P e = some sz) (h0 : sz ≠ 0)
    (hz : zeroT P e = some zv) (hzn : zv.csize = some sz) (hlen : parts.size = len) (hsmall : len * sz ≤ 16777216) (hidx : parts.toList.map (·.1) = List.range len)
    (hrows : rowsOK sz (parts.toList.map fun x => ρ x.2)) : QV P o ρ bx (.list (parts.toList.map fun x => ρ x.2)) (some (0, e)) :=
  QV.of_run fun ac w pr lam hlt hop _ => by
    obtain ⟨i, z, i1, i2, rfl⟩ := zeroT_spec hz
    obtain ⟨i', j1, j2⟩ := bytesT_run hs
    rw [i1] at j1; cases j1
    have hrel : RL ⟨w, pr, lam⟩ (parts.toList.map fun x => ρ x.2) (parts.toList.map fun x => ac.eval x.2) := by
      have := RL_map_eval (ρ := ρ) (E := ⟨w, pr, lam⟩) (ac := ac) (parts.toList.map (·.2)) fun x hx => hop x (by simp [ho, Op.operands]; simpa using hx)
      simpa [List.map_map, Function.comp_def] using this
    obtain ⟨q1, q2⟩ := RL_rowsOK hrel hrows
    generalize hvs : (parts.toList.map fun x => ac.eval x.2) = vs at *
    have hvl : vs.length = len := by rw [← hvs]; simpa using hlen
    have hparts : (parts.map fun x => (x.1, ac.eval x.2)).toList = (vs.zipIdx 0).map fun x => (x.2, x.1) := by
      apply List.ext_getElem?
      intro k
      have hk : (parts.toList.map (·.1))[k]? = (List.range len)[k]? := by rw [hidx]
      simp only [List.getElem?_map, Array.toList_map, List.getElem?_zipIdx, ← hvs, Nat.zero_add] at hk ⊢
      by_cases hkl : k < len
      · have hkp : k < parts.toList.length := by simpa [hlen] using hkl
        simp [List.getElem?_eq_getElem hkp, List.getElem?_range hkl] at hk ⊢
        exact hk
      · simp [List.getElem?_eq_none (show parts.toList.length ≤ k by simp [hlen]; omega)]
    have hrl : (parts.toList.map fun x => ρ x.2).length = len := by simpa using hlen
    by_cases hl0 : len = 0
    · subst hl0
      have hp0 : parts = #[] := Array.eq_empty_of_size_eq_zero hlen
      subst hp0
      have hv0 : vs = [] := List.eq_nil_of_length_eq_zero hvl
      subst hv0
      have hrun : (Instr.buildSlice t 0 #[]).run P w = .ok (.slice (some ⟨w.heap.size, 0, none⟩) 0 0) (w.alloc (.cells #[] e)) := by
        simp [Instr.buildSlice, run_underlying ht, sizeOf, typeInfo, i1, Instr.fill, newRow]
        congr 2
        apply Array.eq_empty_of_size_eq_zero
        simp
      obtain ⟨r1, r2⟩ := R_newRow (sz := sz) (cap := 0) (rows := ([] : List V)) (ys := []) (arr := #[]) (e := e) (fz := (0, 0)) hlt.lt ((Below.refl _ w).alloc (Nat.le_refl _) (.cells #[] e)) (DLE.of_eq rfl) (by simp) (heap_alloc_new w _) (lam := lam) (by simp [RL]) (by simp) (by simp [flatC]) (by simp [flatC]) (by simp) (by simp)
      exact ⟨_, _, _, by simp only [execOp, ho]; simp [hrun], r1, r2, fun _ _ hce => by cases hce; exact ⟨by omega, Own.full⟩⟩
    · have hfill := Go.Great.fill_whole (s := i.size) (by omega) vs ((Array.range (len * i.size)).map (z.cells[· % z.cells.size]!)) (by rw [j2]; exact q1) (by simp [hvl])
      rw [← hparts] at hfill
      have hrun := run_buildSlice (P := P) w t e len _ _ i z ht i1 i2 (by rw [j2]; omega) (by rw [j2]; exact fun hq => by rcases Nat.mul_eq_zero.1 hq with h | h <;> omega) hfill
      obtain ⟨r1, r2⟩ := R_newRow (sz := sz) (cap := len) (e := e) (fz := (0, 0)) (arr := (vs.flatMap fun v => v.cells.toList).toArray) hlt.lt ((Below.refl _ w).alloc (Nat.le_refl _) (.cells (vs.flatMap fun v => v.cells.toList).toArray e)) (DLE.of_eq rfl) (by simp) (heap_alloc_new w _) hrel q1 q2
        (fun j z hz => by simpa [flatC] using hz) (by omega) (by simp only [maxLen]; have : len * 1 ≤ len * sz := Nat.mul_le_mul_left _ (by omega); omega)
      rw [hrl] at r2
      refine ⟨_, _, _, by simp only [execOp, ho]; simp [hrun], r1, r2, fun _ _ hce => ?_⟩
      cases hce
      refine ⟨by omega, fun g hg => ?_⟩
      have hg'' : g = w.heap.size := by
        simp only [gblock] at hg
        split at hg
        · cases hg; rfl
        · cases hg
      subst hg''
      have hfl : (flatC vs).length = len * sz := by rw [flatC_length q1, hvl]
      refine ⟨Nat.le_refl _, len, len, _, sz, rfl, heap_alloc_new w _, by simp [i1, j2], ?_, fun o ho' hp => ?_⟩
      · simpa [flatC] using hfl
      · rcases hp with hp | ⟨_, hp⟩
        · have := hlt.lt _ _ hp; omega
        · rw [hfl] at hp; omega
theorem flatC_bytes (s : List UInt8) : flatC (s.map fun b => Value.int .u8 (b.toNat : Int)) = s.map fun b => Value.int .u8 (b.toNat : Int) := by
  induction s with
  | nil => rfl
  | cons b s ih => simp only [flatC, List.map_cons, List.flatMap_cons] at ih ⊢; rw [ih]; rfl
theorem RL_bytes (E : Env) : ∀ s : List UInt8, RL E (bytesV s) (s.map fun b => Value.int .u8 (b.toNat : Int))
  | [] => by simp [bytesV, RL]
  | b :: s => by
    simp only [bytesV, List.map_cons, RL]
    exact ⟨_, _, rfl, by simp [R], RL_bytes E s⟩
theorem qv_conv_str_bytes {s d e : TypeId} {x : Operand} {l : List UInt8} (ho : o.op = .convert s d x) (hx : ρ x = .str l) (hs : P.underlying s = some .string) (hd : P.underlying d = some (.slice e)) (he : P.underlying e = some (.int .u8)) :
    QV P o ρ bx (.list (bytesV l)) none :=
  QV.of_run fun ac w pr lam hlt hop _ => by
    have h1 := hop x (by simp [ho, Op.operands])
    rw [hx] at h1
    simp only [R] at h1
    obtain ⟨h1, hl⟩ := h1
    have hsz : (ByteArray.mk l.toArray).size = l.length := by simp [ByteArray.size]
    have hrun := Go.Lib.run_convert_string_bytes (P := P) w s d e (ByteArray.mk l.toArray) hs hd he
    rw [hsz] at hrun
    have hge := grownCap_ge w l.length 0 e
    have hcm := grownCap_le_maxLen w l.length 0 e hl
    obtain ⟨r1, r2⟩ := R_newRow (sz := 1) (cap := grownCap w l.length 0 e) (rows := bytesV l) (ys := l.map fun b => Value.int .u8 (b.toNat : Int)) (lam := lam) hlt.lt
      (w' := Go.Lib.bytesWorld w e (ByteArray.mk l.toArray)) ⟨rfl, rfl, rfl, by rw [Go.Lib.bytesWorld_size]; omega, fun k hk => Go.Lib.bytesWorld_at_old w e _ k hk⟩ (by first | exact DLE.of_eq rfl | exact (DLE.drewN w 1).trans (DLE.of_eq rfl)) (by rw [Go.Lib.bytesWorld_size]; omega) (Go.Lib.bytesWorld_at_new w e _) (RL_bytes _ l)
      (by simp [Value.cells]) (by rw [flatC_bytes]; simp [Value.oneCell'])
      (fun j z hz => by
        rw [flatC_bytes] at hz
        have hjl : j < l.length := by have := (List.getElem?_eq_some_iff.1 hz).1; simpa using this
        simp only [Go.Lib.bytesCells]
        rw [Array.getElem?_append, if_pos (by simpa using hjl)]
        simpa using hz)
      (by simpa [bytesV] using hge) hcm
    refine ⟨_, _, _, ?_, r1, r2, fun c e' he' => by cases he'⟩
    simp only [execOp, ho, h1]
    simp [hrun, bytesV]
theorem qv_conv_bytes_str {s d e : TypeId} {x : Operand} {l : List UInt8} (ho : o.op = .convert s d x) (hx : ρ x = .list (bytesV l)) (hs : P.underlying s = some (.slice e)) (he : P.underlying e = some (.int .u8)) (hd : P.underlying d = some .string) :
    QV P o ρ bx (.str l) none :=
  QV.pure fun ac w pr lam hop _ => by
    have h1 := hop x (by simp [ho, Op.operands])
    rw [hx] at h1
    have hlen := h1.list_len
    obtain ⟨ys, src⟩ := Src.list (P := P) (sz := 1) h1 (by intro r hr; simp [bytesV] at hr; obtain ⟨b, _, rfl⟩ := hr; rfl)
    simp only [R] at h1
    obtain ⟨base, cap, h1, hc, hm, hb⟩ := h1
    have hbl : (bytesV l).length = l.length := by simp [bytesV]
    have hys : flatC ys = l.map fun b => Value.int .u8 (b.toNat : Int) := by
      have hrel := src.rel
      clear src hb h1 hc hm hlen hop hx hbl
      induction l generalizing ys with
      | nil => simp only [bytesV, List.map_nil, RL] at hrel; subst hrel; rfl
      | cons b l ih =>
        simp only [bytesV, List.map_cons, RL] at hrel
        obtain ⟨y, ys', rfl, hy, hrel⟩ := hrel
        simp only [R] at hy
        subst hy
        have := ih ys' hrel
        simp only [flatC, List.flatMap_cons, List.map_cons] at this ⊢
        rw [this]; rfl
    have hf := src.first w (fun _ _ _ => rfl)
    rw [h1, hys] at hf
    have hrun : (convert s d (.slice base (bytesV l).length cap)).run P w = .ok (.string ⟨l.toArray⟩) w := by
      cases base with
      | none =>
        have hl0 : l = [] := by
          rcases hb with ⟨hb, _⟩ | ⟨b, o', k, hb, _⟩
          · simpa [bytesV] using hb
          · cases hb
        subst hl0
        rw [run_convert_bytes_nil w s e hs he _ _ d hd]
        rfl
      | some a =>
        simp only [Builtin.firstCells, Nat.mul_one] at hf
        rw [run_convert_bytes_string w s d e _ _ _ hs he hd, run_bytesToString w a _ cap (l.map fun b => (b.toNat : Int)) (by simpa [List.map_map, Function.comp_def] using hf), foldl_push_byteCells]
        simp [ByteArray.empty, ByteArray.emptyWithCapacity]
        rfl
    refine ⟨.string ⟨l.toArray⟩, ?_, by simp only [R]; exact ⟨trivial, by rw [hbl] at hlen; exact hlen⟩⟩
    simp only [execOp, ho, h1]
    simp [hrun]
theorem Src.str {w : World} {pr : Nat → Nat → Prop} {lam : Nat → Option Nat} {x : Value} {l : List UInt8} (h : R ⟨w, pr, lam⟩ (.str l) x) : ∃ ys, Src P w pr lam 1 x (bytesV l) ys := by
  simp only [R] at h
  obtain ⟨rfl, hl⟩ := h
  have hsz : (ByteArray.mk l.toArray).size = l.length := by simp [ByteArray.size]
  refine ⟨l.map fun b => Value.int .u8 (b.toNat : Int), fun w' => by simp [Builtin.lenOf, bytesV, hsz], fun w' _ => ?_, RL_bytes _ l, by simp [Value.cells], by rw [flatC_bytes]; simp [Value.oneCell']⟩
  rw [flatC_bytes]
  simp only [Builtin.firstCells, bytesV, List.length_map]
  have : (ByteArray.mk l.toArray).extract 0 l.length = ByteArray.mk l.toArray := by
    apply ByteArray.ext
    simp [ByteArray.data_extract]
  rw [this]
  simp
end
end Go.Eng
