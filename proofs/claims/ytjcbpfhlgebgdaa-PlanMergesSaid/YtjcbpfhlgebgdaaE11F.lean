import Derived.Test.YtjcbpfhlgebgdaaE11E
set_option linter.unusedSimpArgs false
set_option linter.unusedVariables false
namespace Go.Eng
open Go.RowKit
def rd (ops : Array Oper) (L : Array Bool) (p : List Nat) : List Nat := Region.ready .any ops (p.foldl (fun l i => l.setIfInBounds i true) L)
def rsB (ops : Array Oper) (L : Array Bool) (k : Nat) : Bool :=
  rd ops L [] == [k, k + 2] && rd ops L [k] == [k + 1, k + 2] && rd ops L [k, k + 1] == [k + 2] && rd ops L [k, k + 1, k + 2] == [k + 3] && rd ops L [k, k + 1, k + 2, k + 3] == [k + 4] && rd ops L [k, k + 2] == [k + 1, k + 3] && rd ops L [k, k + 2, k + 1] == [k + 3] && rd ops L [k, k + 2, k + 1, k + 3] == [k + 4] && rd ops L [k, k + 2, k + 3] == [k + 1] && rd ops L [k, k + 2, k + 3, k + 1] == [k + 4] && rd ops L [k + 2] == [k, k + 3] && rd ops L [k + 2, k] == [k + 1, k + 3] && rd ops L [k + 2, k, k + 1] == [k + 3] && rd ops L [k + 2, k, k + 1, k + 3] == [k + 4] && rd ops L [k + 2, k, k + 3] == [k + 1] && rd ops L [k + 2, k, k + 3, k + 1] == [k + 4] && rd ops L [k + 2, k + 3] == [k] && rd ops L [k + 2, k + 3, k] == [k + 1] && rd ops L [k + 2, k + 3, k, k + 1] == [k + 4] && rd ops L [k, k + 1, k + 2, k + 3, k + 4] == [] && rd ops L [k, k + 2, k + 1, k + 3, k + 4] == [] && rd ops L [k, k + 2, k + 3, k + 1, k + 4] == [] && rd ops L [k + 2, k, k + 1, k + 3, k + 4] == [] && rd ops L [k + 2, k, k + 3, k + 1, k + 4] == [] && rd ops L [k + 2, k + 3, k, k + 1, k + 4] == []
theorem wpAny_step1 {P : Program} {md : Region.Mode} {ops : Array Oper} {Q : Exit → Act → World → Prop} {f i : Nat} {L : Array Bool} {a : Act} {w : World} (hr : Region.ready md ops L = [i]) (h : wpOp P ops Q i (wpAny P md ops Q f (L.setIfInBounds i true)) a w) : wpAny P md ops Q (f + 1) L a w :=
  ⟨fun h0 => (by rw [hr] at h0; cases h0), fun j hj => (by rw [hr, List.mem_singleton] at hj; subst hj; exact h)⟩
theorem wpAny_step2 {P : Program} {md : Region.Mode} {ops : Array Oper} {Q : Exit → Act → World → Prop} {f i i' : Nat} {L : Array Bool} {a : Act} {w : World} (hr : Region.ready md ops L = [i, i']) (h : wpOp P ops Q i (wpAny P md ops Q f (L.setIfInBounds i true)) a w)
    (h' : wpOp P ops Q i' (wpAny P md ops Q f (L.setIfInBounds i' true)) a w) : wpAny P md ops Q (f + 1) L a w :=
  ⟨fun h0 => (by rw [hr] at h0; cases h0), fun j hj => (by
    rw [hr] at hj
    rcases List.mem_cons.1 hj with rfl | hj
    · exact h
    · rw [List.mem_singleton] at hj; subst hj; exact h')⟩
theorem wpOp_run {P : Program} {ops : Array Oper} {Q : Exit → Act → World → Prop} {i : Nat} {K : Act → World → Prop} {a : Act} {w w' : World} {o : Oper} {v : Value} {d : Nat} (g : ops[i]? = some o) (u : o.guard = none) (e : o.dst = some d) (hr : (execOp a.eval o).run P w = .ok (.value v) w')
    (h : K (a.put (some d) v) w') : wpOp P ops Q i K a w := by
  unfold wpOp
  rw [g]
  have hw : Region.wanted o (yielded ops a.tmps) = true := by unfold Region.wanted; rw [u]
  simp only [hw, if_true]
  left
  unfold Oper.wp
  rw [hr, Oper.upon_value, e]
  exact h
theorem wpOp_skip {P : Program} {ops : Array Oper} {Q : Exit → Act → World → Prop} {i : Nat} {K : Act → World → Prop} {a : Act} {w w' : World} {o : Oper} (g : ops[i]? = some o) (u : o.guard = none) (e : o.dst = none) (hr : (execOp a.eval o).run P w = .ok .skip w')
    (h : K a w') : wpOp P ops Q i K a w := by
  unfold wpOp
  rw [g]
  have hw : Region.wanted o (yielded ops a.tmps) = true := by unfold Region.wanted; rw [u]
  simp only [hw, if_true]
  left
  unfold Oper.wp
  rw [hr, Oper.upon_skip, e]
  exact h
theorem put_size (a : Act) (d : Option Nat) (v : Value) : (a.put d v).tmps.size = a.tmps.size := by
  cases d <;> simp [Act.put]
set_option maxHeartbeats 8000000 in
theorem wpAny_ent {P : Program} {ops : Array Oper} {Q : Exit → Act → World → Prop} {k : Nat} {L : Array Bool} {a : Act} {w w1 w3 : World} {o2 o3 o4 o5 o6 : Oper} {d2 d3 d4 d5 : Nat} {m x : Operand} {ik : IntKind} {n y : Int} {t4 t5 : Value} (hrs : rsB ops L k = true)
    (g2 : ops[k]? = some o2) (g3 : ops[k + 1]? = some o3) (g4 : ops[k + 2]? = some o4) (g5 : ops[k + 3]? = some o5) (g6 : ops[k + 4]? = some o6) (u2 : o2.guard = none) (u3 : o3.guard = none) (u4 : o4.guard = none) (u5 : o5.guard = none) (u6 : o6.guard = none)
    (e2 : o2.dst = some d2) (e3 : o3.dst = some d3) (e4 : o4.dst = some d4) (e5 : o5.dst = some d5) (e6 : o6.dst = none) (h23 : d2 ≠ d3) (h24 : d2 ≠ d4) (h25 : d2 ≠ d5) (h34 : d3 ≠ d4) (h35 : d3 ≠ d5) (h45 : d4 ≠ d5)
    (m2 : m ≠ .tmp d2) (m3 : m ≠ .tmp d3) (m4 : m ≠ .tmp d4) (m5 : m ≠ .tmp d5) (x2 : x ≠ .tmp d2) (x3 : x ≠ .tmp d3) (x4 : x ≠ .tmp d4) (x5 : x ≠ .tmp d5) (s2 : d2 < a.tmps.size) (s3 : d3 < a.tmps.size) (s4 : d4 < a.tmps.size) (s5 : d5 < a.tmps.size)
    (hA : ∀ a' : Act, a'.eval m = a.eval m → a'.eval x = a.eval x → (execOp a'.eval o2).run P w = .ok (.value (.int ik n)) w ∧ (execOp a'.eval o2).run P w1 = .ok (.value (.int ik n)) w1 ∧ (execOp a'.eval o4).run P w = .ok (.value t4) w1)
    (hB : ∀ (a' : Act) (u : World), a'.eval (.tmp d2) = .int ik n → (execOp a'.eval o3).run P u = .ok (.value (.int ik y)) u)
    (hD : ∀ (a' : Act) (u : World), a'.eval (.tmp d4) = t4 → (execOp a'.eval o5).run P u = .ok (.value t5) u)
    (hE : ∀ a' : Act, a'.eval m = a.eval m → a'.eval (.tmp d3) = .int ik y → a'.eval (.tmp d5) = t5 → (execOp a'.eval o6).run P w1 = .ok .skip w3)
    (hQ : Q .normal ((((a.put (some d2) (.int ik n)).put (some d3) (.int ik y)).put (some d4) t4).put (some d5) t5) w3) : wpAny P .any ops Q 5 L a w := by
  simp only [rsB, rd, List.foldl_cons, List.foldl_nil, Bool.and_eq_true, beq_iff_eq] at hrs
  obtain ⟨⟨⟨⟨⟨⟨⟨⟨⟨⟨⟨⟨⟨⟨⟨⟨⟨⟨⟨⟨⟨⟨⟨⟨r, r2⟩, r23⟩, r234⟩, r2345⟩, r24⟩, r243⟩, r2435⟩, r245⟩, r2453⟩, r4⟩, r42⟩, r423⟩, r4235⟩, r425⟩, r4253⟩, r45⟩, r452⟩, r4523⟩, r23456⟩, r24356⟩, r24536⟩, r42356⟩, r42536⟩, r45236⟩ := hrs
  have em2 : ∀ (b : Act) (v : Value), (b.put (some d2) v).eval m = b.eval m := fun b v => eval_put_ne m2
  have em3 : ∀ (b : Act) (v : Value), (b.put (some d3) v).eval m = b.eval m := fun b v => eval_put_ne m3
  have em4 : ∀ (b : Act) (v : Value), (b.put (some d4) v).eval m = b.eval m := fun b v => eval_put_ne m4
  have em5 : ∀ (b : Act) (v : Value), (b.put (some d5) v).eval m = b.eval m := fun b v => eval_put_ne m5
  have ex2 : ∀ (b : Act) (v : Value), (b.put (some d2) v).eval x = b.eval x := fun b v => eval_put_ne x2
  have ex3 : ∀ (b : Act) (v : Value), (b.put (some d3) v).eval x = b.eval x := fun b v => eval_put_ne x3
  have ex4 : ∀ (b : Act) (v : Value), (b.put (some d4) v).eval x = b.eval x := fun b v => eval_put_ne x4
  have ex5 : ∀ (b : Act) (v : Value), (b.put (some d5) v).eval x = b.eval x := fun b v => eval_put_ne x5
  have tn : ∀ {d e : Nat}, d ≠ e → Operand.tmp d ≠ .tmp e := fun h q => h (by cases q; rfl)
  have t23 : ∀ (b : Act) (v : Value), (b.put (some d3) v).eval (.tmp d2) = b.eval (.tmp d2) := fun b v => eval_put_ne (tn h23)
  have t24 : ∀ (b : Act) (v : Value), (b.put (some d4) v).eval (.tmp d2) = b.eval (.tmp d2) := fun b v => eval_put_ne (tn h24)
  have t25 : ∀ (b : Act) (v : Value), (b.put (some d5) v).eval (.tmp d2) = b.eval (.tmp d2) := fun b v => eval_put_ne (tn h25)
  have v2 : ∀ (b : Act) (v : Value), b.tmps.size = a.tmps.size → (b.put (some d2) v).eval (.tmp d2) = v := fun b v h => eval_put_eq (by rw [h]; exact s2)
  have t32 : ∀ (b : Act) (v : Value), (b.put (some d2) v).eval (.tmp d3) = b.eval (.tmp d3) := fun b v => eval_put_ne (tn h23.symm)
  have t34 : ∀ (b : Act) (v : Value), (b.put (some d4) v).eval (.tmp d3) = b.eval (.tmp d3) := fun b v => eval_put_ne (tn h34)
  have t35 : ∀ (b : Act) (v : Value), (b.put (some d5) v).eval (.tmp d3) = b.eval (.tmp d3) := fun b v => eval_put_ne (tn h35)
  have v3 : ∀ (b : Act) (v : Value), b.tmps.size = a.tmps.size → (b.put (some d3) v).eval (.tmp d3) = v := fun b v h => eval_put_eq (by rw [h]; exact s3)
  have t42 : ∀ (b : Act) (v : Value), (b.put (some d2) v).eval (.tmp d4) = b.eval (.tmp d4) := fun b v => eval_put_ne (tn h24.symm)
  have t43 : ∀ (b : Act) (v : Value), (b.put (some d3) v).eval (.tmp d4) = b.eval (.tmp d4) := fun b v => eval_put_ne (tn h34.symm)
  have t45 : ∀ (b : Act) (v : Value), (b.put (some d5) v).eval (.tmp d4) = b.eval (.tmp d4) := fun b v => eval_put_ne (tn h45)
  have v4 : ∀ (b : Act) (v : Value), b.tmps.size = a.tmps.size → (b.put (some d4) v).eval (.tmp d4) = v := fun b v h => eval_put_eq (by rw [h]; exact s4)
  have t52 : ∀ (b : Act) (v : Value), (b.put (some d2) v).eval (.tmp d5) = b.eval (.tmp d5) := fun b v => eval_put_ne (tn h25.symm)
  have t53 : ∀ (b : Act) (v : Value), (b.put (some d3) v).eval (.tmp d5) = b.eval (.tmp d5) := fun b v => eval_put_ne (tn h35.symm)
  have t54 : ∀ (b : Act) (v : Value), (b.put (some d4) v).eval (.tmp d5) = b.eval (.tmp d5) := fun b v => eval_put_ne (tn h45.symm)
  have v5 : ∀ (b : Act) (v : Value), b.tmps.size = a.tmps.size → (b.put (some d5) v).eval (.tmp d5) = v := fun b v h => eval_put_eq (by rw [h]; exact s5)
  have fin : ∀ (b : Act) (L' : Array Bool), b = ((((a.put (some d2) (.int ik n)).put (some d3) (.int ik y)).put (some d4) t4).put (some d5) t5) → Region.ready .any ops L' = [k + 4] → Region.ready .any ops (L'.setIfInBounds (k + 4) true) = [] → wpAny P .any ops Q 1 L' b w1 := by
    rintro b L' rfl q1 q2
    refine wpAny_step1 q1 (wpOp_skip g6 u6 e6 (hE _ (by simp only [em2, em3, em4, em5, ex2, ex3, ex4, ex5, t23, t24, t25, v2, t32, t34, t35, v3, t42, t43, t45, v4, t52, t53, t54, v5, put_size]) (by simp only [em2, em3, em4, em5, ex2, ex3, ex4, ex5, t23, t24, t25, v2, t32, t34, t35, v3, t42, t43, t45, v4, t52, t53, t54, v5, put_size]) (by simp only [em2, em3, em4, em5, ex2, ex3, ex4, ex5, t23, t24, t25, v2, t32, t34, t35, v3, t42, t43, t45, v4, t52, t53, t54, v5, put_size])) ⟨q2, hQ⟩)
  refine wpAny_step2 r (wpOp_run g2 u2 e2 (hA _ (by simp only [em2, em3, em4, em5, ex2, ex3, ex4, ex5, t23, t24, t25, v2, t32, t34, t35, v3, t42, t43, t45, v4, t52, t53, t54, v5, put_size]) (by simp only [em2, em3, em4, em5, ex2, ex3, ex4, ex5, t23, t24, t25, v2, t32, t34, t35, v3, t42, t43, t45, v4, t52, t53, t54, v5, put_size])).1 ?_) (wpOp_run g4 u4 e4 (hA _ (by simp only [em2, em3, em4, em5, ex2, ex3, ex4, ex5, t23, t24, t25, v2, t32, t34, t35, v3, t42, t43, t45, v4, t52, t53, t54, v5, put_size]) (by simp only [em2, em3, em4, em5, ex2, ex3, ex4, ex5, t23, t24, t25, v2, t32, t34, t35, v3, t42, t43, t45, v4, t52, t53, t54, v5, put_size])).2.2 ?_)
  · refine wpAny_step2 r2 (wpOp_run g3 u3 e3 (hB _ _ (by simp only [em2, em3, em4, em5, ex2, ex3, ex4, ex5, t23, t24, t25, v2, t32, t34, t35, v3, t42, t43, t45, v4, t52, t53, t54, v5, put_size])) ?_) (wpOp_run g4 u4 e4 (hA _ (by simp only [em2, em3, em4, em5, ex2, ex3, ex4, ex5, t23, t24, t25, v2, t32, t34, t35, v3, t42, t43, t45, v4, t52, t53, t54, v5, put_size]) (by simp only [em2, em3, em4, em5, ex2, ex3, ex4, ex5, t23, t24, t25, v2, t32, t34, t35, v3, t42, t43, t45, v4, t52, t53, t54, v5, put_size])).2.2 ?_)
    · refine wpAny_step1 r23 (wpOp_run g4 u4 e4 (hA _ (by simp only [em2, em3, em4, em5, ex2, ex3, ex4, ex5, t23, t24, t25, v2, t32, t34, t35, v3, t42, t43, t45, v4, t52, t53, t54, v5, put_size]) (by simp only [em2, em3, em4, em5, ex2, ex3, ex4, ex5, t23, t24, t25, v2, t32, t34, t35, v3, t42, t43, t45, v4, t52, t53, t54, v5, put_size])).2.2 ?_)
      refine wpAny_step1 r234 (wpOp_run g5 u5 e5 (hD _ _ (by simp only [em2, em3, em4, em5, ex2, ex3, ex4, ex5, t23, t24, t25, v2, t32, t34, t35, v3, t42, t43, t45, v4, t52, t53, t54, v5, put_size])) ?_)
      refine fin _ _ (by rfl) ?_ ?_
      · exact r2345
      · exact r23456
    · refine wpAny_step2 r24 (wpOp_run g3 u3 e3 (hB _ _ (by simp only [em2, em3, em4, em5, ex2, ex3, ex4, ex5, t23, t24, t25, v2, t32, t34, t35, v3, t42, t43, t45, v4, t52, t53, t54, v5, put_size])) ?_) (wpOp_run g5 u5 e5 (hD _ _ (by simp only [em2, em3, em4, em5, ex2, ex3, ex4, ex5, t23, t24, t25, v2, t32, t34, t35, v3, t42, t43, t45, v4, t52, t53, t54, v5, put_size])) ?_)
      · refine wpAny_step1 r243 (wpOp_run g5 u5 e5 (hD _ _ (by simp only [em2, em3, em4, em5, ex2, ex3, ex4, ex5, t23, t24, t25, v2, t32, t34, t35, v3, t42, t43, t45, v4, t52, t53, t54, v5, put_size])) ?_)
        refine fin _ _ (by rw [Act.put_comm _ _ _ (show d4 ≠ d3 from fun h => h34 h.symm)]) ?_ ?_
        · exact r2435
        · exact r24356
      · refine wpAny_step1 r245 (wpOp_run g3 u3 e3 (hB _ _ (by simp only [em2, em3, em4, em5, ex2, ex3, ex4, ex5, t23, t24, t25, v2, t32, t34, t35, v3, t42, t43, t45, v4, t52, t53, t54, v5, put_size])) ?_)
        refine fin _ _ (by rw [Act.put_comm _ _ _ (show d5 ≠ d3 from fun h => h35 h.symm), Act.put_comm _ _ _ (show d4 ≠ d3 from fun h => h34 h.symm)]) ?_ ?_
        · exact r2453
        · exact r24536
  · refine wpAny_step2 r4 (wpOp_run g2 u2 e2 (hA _ (by simp only [em2, em3, em4, em5, ex2, ex3, ex4, ex5, t23, t24, t25, v2, t32, t34, t35, v3, t42, t43, t45, v4, t52, t53, t54, v5, put_size]) (by simp only [em2, em3, em4, em5, ex2, ex3, ex4, ex5, t23, t24, t25, v2, t32, t34, t35, v3, t42, t43, t45, v4, t52, t53, t54, v5, put_size])).2.1 ?_) (wpOp_run g5 u5 e5 (hD _ _ (by simp only [em2, em3, em4, em5, ex2, ex3, ex4, ex5, t23, t24, t25, v2, t32, t34, t35, v3, t42, t43, t45, v4, t52, t53, t54, v5, put_size])) ?_)
    · refine wpAny_step2 r42 (wpOp_run g3 u3 e3 (hB _ _ (by simp only [em2, em3, em4, em5, ex2, ex3, ex4, ex5, t23, t24, t25, v2, t32, t34, t35, v3, t42, t43, t45, v4, t52, t53, t54, v5, put_size])) ?_) (wpOp_run g5 u5 e5 (hD _ _ (by simp only [em2, em3, em4, em5, ex2, ex3, ex4, ex5, t23, t24, t25, v2, t32, t34, t35, v3, t42, t43, t45, v4, t52, t53, t54, v5, put_size])) ?_)
      · refine wpAny_step1 r423 (wpOp_run g5 u5 e5 (hD _ _ (by simp only [em2, em3, em4, em5, ex2, ex3, ex4, ex5, t23, t24, t25, v2, t32, t34, t35, v3, t42, t43, t45, v4, t52, t53, t54, v5, put_size])) ?_)
        refine fin _ _ (by rw [Act.put_comm _ _ _ (show d4 ≠ d2 from fun h => h24 h.symm), Act.put_comm _ _ _ (show d4 ≠ d3 from fun h => h34 h.symm)]) ?_ ?_
        · exact r4235
        · exact r42356
      · refine wpAny_step1 r425 (wpOp_run g3 u3 e3 (hB _ _ (by simp only [em2, em3, em4, em5, ex2, ex3, ex4, ex5, t23, t24, t25, v2, t32, t34, t35, v3, t42, t43, t45, v4, t52, t53, t54, v5, put_size])) ?_)
        refine fin _ _ (by rw [Act.put_comm _ _ _ (show d4 ≠ d2 from fun h => h24 h.symm), Act.put_comm _ _ _ (show d5 ≠ d3 from fun h => h35 h.symm), Act.put_comm _ _ _ (show d4 ≠ d3 from fun h => h34 h.symm)]) ?_ ?_
        · exact r4253
        · exact r42536
    · refine wpAny_step1 r45 (wpOp_run g2 u2 e2 (hA _ (by simp only [em2, em3, em4, em5, ex2, ex3, ex4, ex5, t23, t24, t25, v2, t32, t34, t35, v3, t42, t43, t45, v4, t52, t53, t54, v5, put_size]) (by simp only [em2, em3, em4, em5, ex2, ex3, ex4, ex5, t23, t24, t25, v2, t32, t34, t35, v3, t42, t43, t45, v4, t52, t53, t54, v5, put_size])).2.1 ?_)
      refine wpAny_step1 r452 (wpOp_run g3 u3 e3 (hB _ _ (by simp only [em2, em3, em4, em5, ex2, ex3, ex4, ex5, t23, t24, t25, v2, t32, t34, t35, v3, t42, t43, t45, v4, t52, t53, t54, v5, put_size])) ?_)
      refine fin _ _ (by rw [Act.put_comm _ _ _ (show d5 ≠ d2 from fun h => h25 h.symm), Act.put_comm _ _ _ (show d5 ≠ d3 from fun h => h35 h.symm), Act.put_comm _ _ _ (show d4 ≠ d2 from fun h => h24 h.symm), Act.put_comm _ _ _ (show d4 ≠ d3 from fun h => h34 h.symm)]) ?_ ?_
      · exact r4523
      · exact r45236
end Go.Eng
