import Derived.Test.YtjcbpfhlgebgdaaE2
set_option linter.unusedSimpArgs false
set_option linter.unusedVariables false
namespace Go.Eng
open Go.RowKit
def bitI (op : BinOp) (k : IntKind) (a b : Int) : Int :=
  let x := BitVec.ofInt k.bits a
  let y := BitVec.ofInt k.bits b
  match op with
  | .and => k.wrap ((x &&& y).toNat : Int)
  | .or => k.wrap ((x ||| y).toNat : Int)
  | .xor => k.wrap ((x ^^^ y).toNat : Int)
  | _ => k.wrap ((x &&& ~~~y).toNat : Int)
def binI (op : BinOp) (k : IntKind) (a b : Int) : Option V :=
  match op with
  | .add => some (.int k (k.wrap (a + b)))
  | .sub => some (.int k (k.wrap (a - b)))
  | .mul => some (.int k (k.wrap (a * b)))
  | .quo => if b = 0 then none else some (.int k (k.wrap (a.tdiv b)))
  | .rem => if b = 0 then none else some (.int k (a.tmod b))
  | .eql => some (.bool (a == b))
  | .neq => some (.bool (a != b))
  | .lss => some (.bool (decide (a < b)))
  | .leq => some (.bool (decide (a ≤ b)))
  | .gtr => some (.bool (decide (a > b)))
  | .geq => some (.bool (decide (a ≥ b)))
  | .and => some (.int k (bitI .and k a b))
  | .or => some (.int k (bitI .or k a b))
  | .xor => some (.int k (bitI .xor k a b))
  | .andNot => some (.int k (bitI .andNot k a b))
  | _ => none
def binS (op : BinOp) (s t : List UInt8) : Option V :=
  match op with
  | .add => if s.length + t.length ≤ maxLen then some (.str (s ++ t)) else none
  | .eql => some (.bool (s == t))
  | .neq => some (.bool (!(s == t)))
  | .lss => some (.bool (Op.bytesLess s t))
  | .leq => some (.bool (Op.bytesLess s t || s == t))
  | .gtr => some (.bool (!(Op.bytesLess s t || s == t)))
  | .geq => some (.bool (!Op.bytesLess s t))
  | _ => none
def V.csize : V → Option Nat
  | .agg cs => some cs.length
  | .any | .un | .tup _ => none
  | _ => some 1
def V.cellsL : V → List V
  | .agg cs => cs
  | v => [v]
def rowsOK (n : Nat) (rows : List V) : Prop := ∀ r ∈ rows, r.csize = some n
section
variable {P : Program} {o : Oper} {ρ : Operand → V} {bx : Nat → Option Box}
theorem R.csize {E : Env} {v : V} {x : Value} {n : Nat} (h : R E v x) (hn : v.csize = some n) : x.cells.size = n := by
  cases v <;> simp only [V.csize, Option.some.injEq, reduceCtorEq] at hn <;> simp only [R] at h
  case agg cs => obtain ⟨xs, rfl, h, _⟩ := h; subst hn; simp [Value.cells, h.length]
  all_goals subst hn
  case int => subst h; rfl
  case bool => subst h; rfl
  case str => obtain ⟨rfl, _⟩ := h; rfl
  case loc => obtain ⟨b, _, rfl⟩ := h; rfl
  case elt => obtain ⟨b, o, rfl, _⟩ := h; rfl
  case nilp => subst h; rfl
  case list => obtain ⟨b, c, rfl, _⟩ := h; rfl
  case fn => obtain ⟨b, c, rfl, _⟩ := h; rfl
  case nilfn => subst h; rfl
  case iface => obtain ⟨y, rfl, _⟩ := h; rfl
  case nilif => subst h; rfl
  case mref => obtain ⟨b, _, rfl⟩ := h; rfl
  case nilm => subst h; rfl
  case ptr => obtain ⟨b, rfl⟩ := h; rfl
theorem R.oneCell {E : Env} {v : V} {x : Value} (h : R E v x) (hn : (match v with | .agg _ => false | _ => true) = true) (hc : v.csize = some 1) : x.oneCell' = true := by
  cases v <;> simp only [V.csize, reduceCtorEq] at hc <;> simp only [reduceCtorEq, Bool.false_eq_true] at hn <;> simp only [R] at h
  case int => subst h; rfl
  case bool => subst h; rfl
  case str => obtain ⟨rfl, _⟩ := h; rfl
  case loc => obtain ⟨b, _, rfl⟩ := h; rfl
  case elt => obtain ⟨b, o, rfl, _⟩ := h; rfl
  case nilp => subst h; rfl
  case list => obtain ⟨b, c, rfl, _⟩ := h; rfl
  case fn => obtain ⟨b, c, rfl, _⟩ := h; rfl
  case nilfn => subst h; rfl
  case iface => obtain ⟨y, rfl, _⟩ := h; rfl
  case nilif => subst h; rfl
  case mref => obtain ⟨b, _, rfl⟩ := h; rfl
  case nilm => subst h; rfl
  case ptr => obtain ⟨b, rfl⟩ := h; rfl
theorem R.cells {E : Env} {v : V} {x : Value} {n : Nat} (h : R E v x) (hn : v.csize = some n) : RL E v.cellsL x.cells.toList ∧ ∀ y ∈ x.cells.toList, y.oneCell' = true := by
  cases v
  case agg cs =>
    simp only [R] at h
    obtain ⟨xs, rfl, h, h1⟩ := h
    exact ⟨by simpa [V.cellsL, Value.cells] using h, by simpa [Value.cells] using h1⟩
  case any => simp [V.csize] at hn
  case un => simp [V.csize] at hn
  case tup => simp [V.csize] at hn
  all_goals
    have hc : x.cells = #[x] := by
      have := h
      simp only [R] at this
      first
        | (subst this; rfl)
        | (obtain ⟨rfl, _⟩ := this; rfl)
        | (obtain ⟨_, _, rfl⟩ := this; rfl)
        | (obtain ⟨_, _, rfl, _⟩ := this; rfl)
        | (obtain ⟨_, rfl, _⟩ := this; rfl)
    have h1 := R.oneCell h rfl rfl
    rw [hc]
    exact ⟨by simp only [V.cellsL, RL]; exact ⟨x, [], rfl, h, rfl⟩, by simpa using h1⟩
theorem run_and (P : Program) (w : World) (k : IntKind) (a b : Int) : (Op.intBits .and k a b).run P w = .ok (.int k (bitI .and k a b)) w := rfl
theorem run_or (P : Program) (w : World) (k : IntKind) (a b : Int) : (Op.intBits .or k a b).run P w = .ok (.int k (bitI .or k a b)) w := rfl
theorem run_xor (P : Program) (w : World) (k : IntKind) (a b : Int) : (Op.intBits .xor k a b).run P w = .ok (.int k (bitI .xor k a b)) w := rfl
theorem run_andNot (P : Program) (w : World) (k : IntKind) (a b : Int) : (Op.intBits .andNot k a b).run P w = .ok (.int k (bitI .andNot k a b)) w := rfl
def shI (op : BinOp) (k : IntKind) (a b : Int) : Option V :=
  if b < 0 then none else match op with
  | .shl => some (.int k (k.wrap (a * 2 ^ (min b.toNat k.bits))))
  | .shr => some (.int k (a.fdiv (2 ^ (min b.toNat k.bits))))
  | _ => none
theorem qv_bin_sh {op : BinOp} {xT yT : TypeId} {x y : Operand} {k k' : IntKind} {a b : Int} {v : V} (ho : o.op = .binOp op xT x y yT) (hx : ρ x = .int k a) (hy : ρ y = .int k' b)
    (hv : shI op k a b = some v) : QV P o ρ bx v none :=
  QV.pure fun ac w pr lam h _ => by
    have h1 := h x (by simp [ho, Op.operands])
    have h2 := h y (by simp [ho, Op.operands])
    rw [hx] at h1; rw [hy] at h2
    simp only [R] at h1 h2
    unfold shI at hv
    split at hv
    · cases hv
    · rename_i hb
      cases op <;> simp only [Option.some.injEq, reduceCtorEq] at hv
      all_goals subst hv
      all_goals exact ⟨_, by simp [execOp, ho, h1, h2, eqGuard, binOp, Op.shift, hb]; rfl, by simp [R]⟩
theorem qv_bin_int {op : BinOp} {xT yT : TypeId} {x y : Operand} {k : IntKind} {a b : Int} {v : V} (ho : o.op = .binOp op xT x y yT) (hx : ρ x = .int k a) (hy : ρ y = .int k b)
    (hv : binI op k a b = some v) : QV P o ρ bx v none :=
  QV.pure fun ac w pr lam h _ => by
    have h1 := h x (by simp [ho, Op.operands])
    have h2 := h y (by simp [ho, Op.operands])
    rw [hx] at h1; rw [hy] at h2
    simp only [R] at h1 h2
    cases op <;> simp only [binI, Option.some.injEq, reduceCtorEq] at hv
    case quo =>
      split at hv
      · cases hv
      · rename_i hb
        simp only [Option.some.injEq] at hv; subst hv
        exact ⟨_, by simp [execOp, ho, h1, h2, eqGuard, binOp, Op.intDiv, hb]; rfl, by simp [R]⟩
    case rem =>
      split at hv
      · cases hv
      · rename_i hb
        simp only [Option.some.injEq] at hv; subst hv
        exact ⟨_, by simp [execOp, ho, h1, h2, eqGuard, binOp, Op.intDiv, hb]; rfl, by simp [R]⟩
    all_goals subst hv
    case and => exact ⟨_, by simp [execOp, ho, h1, h2, eqGuard, binOp, run_and]; rfl, by simp [R]⟩
    case or => exact ⟨_, by simp [execOp, ho, h1, h2, eqGuard, binOp, run_or]; rfl, by simp [R]⟩
    case xor => exact ⟨_, by simp [execOp, ho, h1, h2, eqGuard, binOp, run_xor]; rfl, by simp [R]⟩
    case andNot => exact ⟨_, by simp [execOp, ho, h1, h2, eqGuard, binOp, run_andNot]; rfl, by simp [R]⟩
    all_goals exact ⟨_, by simp [execOp, ho, h1, h2, eqGuard, binOp, Op.intArith, Op.intCmp]; rfl, by simp [R]⟩
theorem bytes_toList (l : List UInt8) : (ByteArray.mk l.toArray).toList = l := by rw [ByteArray.toList_eq]
theorem qv_bin_str {op : BinOp} {xT yT : TypeId} {x y : Operand} {s t : List UInt8} {v : V} (ho : o.op = .binOp op xT x y yT) (hx : ρ x = .str s) (hy : ρ y = .str t)
    (hv : binS op s t = some v) : QV P o ρ bx v none :=
  QV.pure fun ac w pr lam h _ => by
    have h1 := h x (by simp [ho, Op.operands])
    have h2 := h y (by simp [ho, Op.operands])
    rw [hx] at h1; rw [hy] at h2
    simp only [R] at h1 h2
    obtain ⟨h1, l1⟩ := h1
    obtain ⟨h2, l2⟩ := h2
    cases op <;> simp only [binS, Option.some.injEq, reduceCtorEq] at hv
    case add =>
      split at hv
      · rename_i hl
        simp only [Option.some.injEq] at hv; subst hv
        have hs : ¬ ((((ByteArray.mk s.toArray).size + (ByteArray.mk t.toArray).size : Nat) : Int) > IntKind.i64.max) := by
          show ¬ (((s.toArray.size + t.toArray.size : Nat) : Int) > 9223372036854775807)
          simp only [maxLen] at hl
          simp; omega
        refine ⟨.string ⟨(s ++ t).toArray⟩, ?_, ?_⟩
        · simp only [execOp, ho, h1, h2]
          simp [eqGuard, binOp, Op.stringOp]
          rw [if_neg (by simpa using hs)]
          have : (ByteArray.mk s.toArray ++ ByteArray.mk t.toArray) = ByteArray.mk (s.toArray ++ t.toArray) := by
            apply ByteArray.ext
            simp
          simp [this]
        · simpa [R] using hl
      · cases hv
    all_goals subst hv
    all_goals exact ⟨_, by simp [execOp, ho, h1, h2, eqGuard, binOp, Op.stringOp, bytes_toList]; rfl, by simp [R]⟩
theorem qv_bin_bool {op : BinOp} {xT yT : TypeId} {x y : Operand} {s t : Bool} {v : V} (ho : o.op = .binOp op xT x y yT) (hx : ρ x = .bool s) (hy : ρ y = .bool t)
    (hT : P.underlying xT = some .bool) (hv : (match op with | .eql => some (V.bool (s == t)) | .neq => some (V.bool (!(s == t))) | _ => none) = some v) : QV P o ρ bx v none :=
  QV.pure fun ac w pr lam h _ => by
    have h1 := h x (by simp [ho, Op.operands])
    have h2 := h y (by simp [ho, Op.operands])
    rw [hx] at h1; rw [hy] at h2
    simp only [R] at h1 h2
    have he : (Op.equal xT (.bool s) (.bool t)).run P w = .ok (s == t) w := run_equalIn_bool' w 9999 xT s t hT
    cases op <;> simp only [Option.some.injEq, reduceCtorEq] at hv
    all_goals subst hv
    all_goals exact ⟨_, by simp [execOp, ho, h1, h2, eqGuard, binOp, he]; rfl, by simp [R]⟩
theorem qv_not {xT : TypeId} {x : Operand} {s : Bool} (ho : o.op = .unOp .not xT x) (hx : ρ x = .bool s) : QV P o ρ bx (.bool (!s)) none :=
  QV.pure fun ac w pr lam h _ => by
    have h1 := h x (by simp [ho, Op.operands])
    rw [hx] at h1
    simp only [R] at h1
    exact ⟨_, by simp [execOp, ho, h1, Op.unary]; rfl, by simp [R]⟩
theorem qv_neg {xT : TypeId} {x : Operand} {k : IntKind} {n : Int} (ho : o.op = .unOp .neg xT x) (hx : ρ x = .int k n) : QV P o ρ bx (.int k (k.wrap (0 - n))) none :=
  QV.pure fun ac w pr lam h _ => by
    have h1 := h x (by simp [ho, Op.operands])
    rw [hx] at h1
    simp only [R] at h1
    exact ⟨.int k (k.wrap (0 - n)), by simp [execOp, ho, h1, Op.unary, Op.intArith], by simp [R]⟩
theorem qv_conv_int {s d : TypeId} {x : Operand} {k k' : IntKind} {n : Int} {ds : TypeDesc} (ho : o.op = .convert s d x) (hx : ρ x = .int k n) (hs : P.underlying s = some ds) (hd : P.underlying d = some (.int k')) :
    QV P o ρ bx (.int k' (k'.wrap n)) none :=
  QV.pure fun ac w pr lam h _ => by
    have h1 := h x (by simp [ho, Op.operands])
    rw [hx] at h1
    simp only [R] at h1
    exact ⟨.int k' (k'.wrap n), by simp [execOp, ho, h1, convert, run_underlying hs, run_underlying hd, Conv.intToInt], by simp [R]⟩
theorem qv_conv_str {s d : TypeId} {x : Operand} {l : List UInt8} (ho : o.op = .convert s d x) (hx : ρ x = .str l) (hs : P.underlying s = some .string) (hd : P.underlying d = some .string) :
    QV P o ρ bx (.str l) none :=
  QV.pure fun ac w pr lam h _ => by
    have h1 := h x (by simp [ho, Op.operands])
    rw [hx] at h1
    have h1' := h1
    simp only [R] at h1
    obtain ⟨h1, hl⟩ := h1
    exact ⟨_, by simp [execOp, ho, h1, convert, run_underlying hs, run_underlying hd]; rfl, by simp [R, hl]⟩
theorem qv_makeIface {t : TypeId} {x : Operand} {d : TypeDesc} (ho : o.op = .makeInterface t x) (ht : P.underlying t = some d) (hd : (match d with | .interface _ => false | _ => true) = true) :
    QV P o ρ bx (.iface t (ρ x)) none :=
  QV.pure fun ac w pr lam h _ => by
    have h1 := h x (by simp [ho, Op.operands])
    refine ⟨.iface t (ac.eval x), ?_, by simp only [R]; exact ⟨_, rfl, h1⟩⟩
    simp only [execOp, ho, Instr.makeInterface, Sem.run_bind, run_underlying ht, Result.andThen_ok]
    cases d <;> first | (simp at hd; done) | simp
theorem qv_makeFunc {f : Fn} {first cap : Array Operand} (ho : o.op = .makeFunc f first cap) : QV P o ρ bx (.fn f (first.toList.map ρ) (cap.toList.map ρ)) none :=
  QV.pure fun ac w pr lam h _ => by
    have key : ∀ (l : List Operand), (∀ x ∈ l, x ∈ o.op.operands) → RL ⟨w, pr, lam⟩ (l.map ρ) (l.map ac.eval) := by
      intro l hl
      refine RL.of_get (by simp) fun i c x hc hx => ?_
      rw [List.getElem?_map] at hc hx
      cases hi : l[i]? with
      | none => rw [hi] at hc; simp at hc
      | some y =>
        rw [hi] at hc hx
        simp only [Option.map_some, Option.some.injEq] at hc hx
        subst hc; subst hx
        exact h y (hl y (List.mem_of_getElem? hi))
    refine ⟨.func f (first.map ac.eval) (cap.map ac.eval), by simp [execOp, ho, Instr.makeFunc], ?_⟩
    simp only [R]
    refine ⟨first.toList.map ac.eval, cap.toList.map ac.eval, by rw [← Array.toList_map, ← Array.toList_map], key _ ?_, key _ ?_⟩
    · intro x hx; simp [ho, Op.operands]; exact .inl (by simpa using hx)
    · intro x hx; simp [ho, Op.operands]; exact .inr (by simpa using hx)
theorem qv_extract {x : Operand} {i : Nat} {vs : List V} {v : V} (ho : o.op = .extract x i) (hx : ρ x = .tup vs) (hv : vs[i]? = some v) : QV P o ρ bx v none :=
  QV.pure fun ac w pr lam h _ => by
    have h1 := h x (by simp [ho, Op.operands])
    rw [hx] at h1
    simp only [R] at h1
    obtain ⟨xs, e, hl⟩ := h1
    obtain ⟨y, hy, hr⟩ := hl.get i v hv
    exact ⟨y, by simp [execOp, ho, e, Instr.extract, hy], hr⟩
theorem qv_nilCheck_loc {x : Operand} {i off : Nat} (ho : o.op = .nilCheck x) (hx : ρ x = .loc i off) : QV P o ρ bx (.loc i off) none :=
  QV.pure fun ac w pr lam h _ => by
    have h1 := h x (by simp [ho, Op.operands])
    rw [hx] at h1
    have h2 := h1
    simp only [R] at h1
    obtain ⟨b, _, e⟩ := h1
    exact ⟨ac.eval x, by simp [execOp, ho, e], h2⟩
theorem qv_nilCheck_elt {x : Operand} {cs : List V} {off : Nat} (ho : o.op = .nilCheck x) (hx : ρ x = .elt cs off) : QV P o ρ bx (.elt cs off) none :=
  QV.pure fun ac w pr lam h _ => by
    have h1 := h x (by simp [ho, Op.operands])
    rw [hx] at h1
    have h2 := h1
    simp only [R] at h1
    obtain ⟨b, _, e, _⟩ := h1
    exact ⟨ac.eval x, by simp [execOp, ho, e], h2⟩
def fieldT (P : Program) (s : TypeId) (i : Nat) : Option (Nat × TypeId) :=
  match P.underlying s with
  | some (.struct fs) => (fs[i]?).map fun f => (f.offset, f.type)
  | _ => none
theorem fieldT_spec {s : TypeId} {i off : Nat} {t : TypeId} (h : fieldT P s i = some (off, t)) : ∃ fs f, P.underlying s = some (.struct fs) ∧ fs[i]? = some f ∧ f.offset = off ∧ f.type = t := by
  unfold fieldT at h
  split at h
  · rename_i fs hu
    cases hf : fs[i]? with
    | none => rw [hf] at h; simp at h
    | some f => rw [hf] at h; simp at h; exact ⟨fs, f, hu, hf, h.1, h.2⟩
  · cases h
theorem run_fieldAt {s : TypeId} {i off n : Nat} {t : TypeId} (hf : fieldT P s i = some (off, t)) (hs : sizeT P t = some n) (hn : n ≠ 0) (b a : Nat) (w : World) :
    (Instr.fieldAt s (.pointer (some ⟨b, a, none⟩)) i).run P w = .ok (.pointer (some ⟨b, a + off, none⟩)) w := by
  obtain ⟨fs, f, h1, h2, rfl, rfl⟩ := fieldT_spec hf
  simp [Instr.fieldAt, run_underlying h1, h2, Instr.sureAddr, fieldPlace, run_sizeOf hs, hn, Addr.add_none]
theorem qv_fieldAddr_loc {s : TypeId} {x : Operand} {fi i a off n : Nat} {t : TypeId} (ho : o.op = .fieldAddr s x fi) (hx : ρ x = .loc i a) (hf : fieldT P s fi = some (off, t)) (hs : sizeT P t = some n) (hn : n ≠ 0) :
    QV P o ρ bx (.loc i (a + off)) none :=
  QV.pure fun ac w pr lam h _ => by
    have h1 := h x (by simp [ho, Op.operands])
    rw [hx] at h1
    simp only [R] at h1
    obtain ⟨b, hl, e⟩ := h1
    exact ⟨_, by simp [execOp, ho, e, run_fieldAt hf hs hn]; rfl, by simp only [R]; exact ⟨b, hl, rfl⟩⟩
theorem qv_fieldAddr_elt {s : TypeId} {x : Operand} {fi a off n : Nat} {cs : List V} {t : TypeId} (ho : o.op = .fieldAddr s x fi) (hx : ρ x = .elt cs a) (hf : fieldT P s fi = some (off, t)) (hs : sizeT P t = some n) (hn : n ≠ 0) :
    QV P o ρ bx (.elt cs (a + off)) none :=
  QV.pure fun ac w pr lam h _ => by
    have h1 := h x (by simp [ho, Op.operands])
    rw [hx] at h1
    simp only [R] at h1
    obtain ⟨b, o', e, hc⟩ := h1
    exact ⟨_, by simp [execOp, ho, e, run_fieldAt hf hs hn]; rfl, by simp only [R]; exact ⟨b, o', by rw [Nat.add_assoc], hc⟩⟩
theorem RR.get {E : Env} {b k : Nat} : ∀ {rows : List V} {o : Nat}, RR E b k o rows → ∀ (i : Nat) (r : V), rows[i]? = some r →
    ∃ y : Value, R E r y ∧ y.cells.size = k ∧ ∀ j z, y.cells[j]? = some z → E.at b (o + i * k + j) z ∧ z.oneCell' = true
  | [], _, _, i, c, hc => by simp at hc
  | r :: rs, o, h, i, d, hd => by
    simp only [RR] at h
    obtain ⟨⟨y, h1, h2, h3⟩, h⟩ := h
    cases i with
    | zero => simp at hd; subst hd; exact ⟨y, h1, h2, by simpa using h3⟩
    | succ i =>
      simp at hd
      obtain ⟨x, q1, q2, q3⟩ := RR.get h i d hd
      refine ⟨x, q1, q2, fun j z hz => ?_⟩
      have := q3 j z hz
      rwa [show o + (i + 1) * k + j = o + k + i * k + j from by rw [Nat.add_mul]; omega]
theorem RR.of_get {E : Env} {b k : Nat} : ∀ {rows : List V} {o : Nat}, (∀ (i : Nat) (r : V), rows[i]? = some r →
    ∃ y : Value, R E r y ∧ y.cells.size = k ∧ ∀ j z, y.cells[j]? = some z → E.at b (o + i * k + j) z ∧ z.oneCell' = true) → RR E b k o rows
  | [], _, _ => by simp [RR]
  | r :: rs, o, h => by
    simp only [RR]
    obtain ⟨y, h1, h2, h3⟩ := h 0 r (by simp)
    refine ⟨⟨y, h1, h2, by simpa using h3⟩, RR.of_get fun i d hd => ?_⟩
    obtain ⟨y, h1, h2, h3⟩ := h (i + 1) d (by simpa using hd)
    refine ⟨y, h1, h2, fun j z hz => ?_⟩
    have := h3 j z hz
    rwa [show o + (i + 1) * k + j = o + k + i * k + j from by rw [Nat.add_mul]; omega] at this
theorem RR.size {E : Env} {b k o n : Nat} {rows : List V} (h : RR E b k o rows) (hr : rowsOK n rows) {r : V} (hm : r ∈ rows) : k = n := by
  obtain ⟨i, hi⟩ := List.mem_iff_getElem?.1 hm
  obtain ⟨y, h1, h2, _⟩ := h.get i r hi
  rw [← h2]
  exact h1.csize (hr r hm)
theorem elt_of_row {E : Env} {b k o : Nat} {r : V} {y : Value} {n : Nat} (h1 : R E r y) (hn : r.csize = some n) (h3 : ∀ j z, y.cells[j]? = some z → E.at b (o + j) z ∧ z.oneCell' = true) : RC E b o r.cellsL := by
  obtain ⟨q1, _⟩ := h1.cells hn
  exact RC.of_vals q1 fun j x hx => h3 j x (by simpa using hx)
theorem qv_indexAddr_list {t e : TypeId} {x ix : Operand} {rows : List V} {k : IntKind} {i : Int} {n : Nat} {r : V} (ho : o.op = .indexAddr t x ix) (hx : ρ x = .list rows) (hi : ρ ix = .int k i)
    (ht : P.underlying t = some (.slice e)) (hs : sizeT P e = some n) (hrows : rowsOK n rows) (h0 : 0 ≤ i) (hr : rows[i.toNat]? = some r) : QV P o ρ bx (.elt r.cellsL 0) none :=
  QV.pure fun ac w pr lam h _ => by
    have h1 := h x (by simp [ho, Op.operands])
    have h2 := h ix (by simp [ho, Op.operands])
    rw [hx] at h1; rw [hi] at h2
    simp only [R] at h1 h2
    obtain ⟨base, cap, e1, hc, hm, hb⟩ := h1
    have hlt : i.toNat < rows.length := (List.getElem?_eq_some_iff.1 hr).1
    rcases hb with ⟨hb, _⟩ | ⟨b, o', k', rfl, hb⟩
    · subst hb; simp at hlt
    · have hmem : r ∈ rows := List.mem_of_getElem? hr
      obtain rfl := hb.size hrows hmem
      obtain ⟨y, q1, q2, q3⟩ := hb.get _ r hr
      have hcond : 0 ≤ i ∧ i < (rows.length : Int) := ⟨h0, by omega⟩
      refine ⟨.pointer (some ⟨b, o' + i.toNat * k', none⟩), ?_, ?_⟩
      · simp only [execOp, ho, e1, h2]
        simp [Instr.indexAt, asIntOf, run_underlying ht, hcond, run_sizeOf hs, Addr.add_none]
      · simp only [R]
        exact ⟨b, o' + i.toNat * k', rfl, elt_of_row (k := k') q1 (hrows r hmem) q3⟩
theorem qv_indexAddr_loc {t e : TypeId} {x ix : Operand} {j a : Nat} {k : IntKind} {i : Int} {n len : Nat} (ho : o.op = .indexAddr t x ix) (hx : ρ x = .loc j a) (hi : ρ ix = .int k i)
    (ht : P.underlying t = some (.array len e)) (hs : sizeT P e = some n) (h0 : 0 ≤ i) (h1 : i < len) : QV P o ρ bx (.loc j (a + i.toNat * n)) none :=
  QV.pure fun ac w pr lam h _ => by
    have q1 := h x (by simp [ho, Op.operands])
    have q2 := h ix (by simp [ho, Op.operands])
    rw [hx] at q1; rw [hi] at q2
    simp only [R] at q1 q2
    obtain ⟨b, hl, e1⟩ := q1
    refine ⟨.pointer (some ⟨b, a + i.toNat * n, none⟩), ?_, by simp only [R]; exact ⟨b, hl, rfl⟩⟩
    simp only [execOp, ho, e1, q2]
    simp [Instr.indexAt, asIntOf, run_underlying ht, Instr.sureAddr, h0, h1, run_sizeOf hs, Addr.add_none]
theorem qv_indexAddr_elt {t e : TypeId} {x ix : Operand} {cs : List V} {a : Nat} {k : IntKind} {i : Int} {n len : Nat} (ho : o.op = .indexAddr t x ix) (hx : ρ x = .elt cs a) (hi : ρ ix = .int k i)
    (ht : P.underlying t = some (.array len e)) (hs : sizeT P e = some n) (h0 : 0 ≤ i) (h1 : i < len) : QV P o ρ bx (.elt cs (a + i.toNat * n)) none :=
  QV.pure fun ac w pr lam h _ => by
    have q1 := h x (by simp [ho, Op.operands])
    have q2 := h ix (by simp [ho, Op.operands])
    rw [hx] at q1; rw [hi] at q2
    simp only [R] at q1 q2
    obtain ⟨b, o', e1, hc⟩ := q1
    refine ⟨.pointer (some ⟨b, o' + a + i.toNat * n, none⟩), ?_, by simp only [R]; exact ⟨b, o', by rw [Nat.add_assoc], hc⟩⟩
    simp only [execOp, ho, e1, q2]
    simp [Instr.indexAt, asIntOf, run_underlying ht, Instr.sureAddr, h0, h1, run_sizeOf hs, Addr.add_none]
theorem qv_index_str {t : TypeId} {x ix : Operand} {s : List UInt8} {k : IntKind} {i : Int} {c : UInt8} (ho : o.op = .index t x ix) (hx : ρ x = .str s) (hi : ρ ix = .int k i)
    (ht : P.underlying t = some .string) (h0 : 0 ≤ i) (hc : s[i.toNat]? = some c) : QV P o ρ bx (.int .u8 c.toNat) none :=
  QV.pure fun ac w pr lam h _ => by
    have q1 := h x (by simp [ho, Op.operands])
    have q2 := h ix (by simp [ho, Op.operands])
    rw [hx] at q1; rw [hi] at q2
    simp only [R] at q1 q2
    obtain ⟨e1, _⟩ := q1
    have hlt : i.toNat < s.length := (List.getElem?_eq_some_iff.1 hc).1
    have hget : (ByteArray.mk s.toArray)[i.toNat]? = some c := by
      have h2 : i.toNat < (ByteArray.mk s.toArray).size := by simpa [ByteArray.size] using hlt
      have h3 := (List.getElem?_eq_some_iff.1 hc).2
      rw [getElem?_pos (ByteArray.mk s.toArray) i.toNat h2]
      simp only [Option.some.injEq]
      rw [← h3]
      rfl
    refine ⟨.int .u8 c.toNat, ?_, by simp [R]⟩
    simp only [execOp, ho, e1, q2]
    simp [Instr.index, asIntOf, run_underlying ht, h0, hget]
end
end Go.Eng
