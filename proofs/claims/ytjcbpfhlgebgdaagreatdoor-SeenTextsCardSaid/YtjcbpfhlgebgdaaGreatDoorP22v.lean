import Derived.Test.YtjcbpfhlgebgdaaGreatDoorXGRf
import Derived.Test.YtjcbpfhlgebgdaaGreatDoorP3r
import Derived.Test.YtjcbpfhlgebgdaaGreatDoorX9
import Derived.Test.YtjcbpfhlgebgdaaGreatDoorChecked
import Derived.KernelRfl
import Derived.Test.YtjcbpfhlgebgdaaGreatDoorP3p
import Derived.Lib.ItoaNum
open Option renaming bind_some -> zug
set_option linter.unusedSimpArgs false
set_option linter.unusedVariables false
namespace Go.Proofs.YtjcbpfhlgebgdaaGreatDoor
open Go.X Go.Eng
noncomputable def yN:List UInt8->Option (Int × Bool) :=
 fun s_1 =>
 br (s_1 == ([]:List UInt8))
  (some ((0:Int),false))
  ((yi s_1 (0:Int)).bind fun x_2 =>
  br (x_2 == (48:Int))
   (br (decide ((1:Int) < (s_1.length:Int)))
    (some ((0:Int),false))
    ((qO (σ:=Int × Int) (ρ:=(Int × Bool) ⊕ (Int)) (fun (n_3,x_4) =>
     br (decide (x_4 < ((yd s_1).length:Int)))
      ((idx (yd s_1) x_4).bind fun x_5 =>
      br (decide (x_5 < (48:Int)))
       (some (.done (.inl ((0:Int),false))))
       (br (decide ((57:Int) < x_5))
        (some (.done (.inl ((0:Int),false))))
        ((zbd .u64 (10:Int) n_3).bind fun x_6 =>
        (Yb .u8 x_5 (48:Int)).bind fun x_7 =>
        (zO .u64 x_6 (Go.IntKind.wrap .u64 x_7)).bind fun x_8 =>
        br (decide ((1125899906842624:Int) < x_8))
         (some (.done (.inl ((0:Int),false))))
         ((zO .i64 x_4 (1:Int)).bind fun x_9 =>
         some (.next (x_8,x_9))))))
      (some (.done (.inr n_3)))) ((0:Int),(0:Int))).bind fun x_13 =>
    Sum.elim
     (fun (x_10,x_11) =>
     some (x_10,x_11))
     (fun n_12 =>
     some (n_12,true)) x_13))
   ((qO (σ:=Int × Int) (ρ:=(Int × Bool) ⊕ (Int)) (fun (n_14,x_15) =>
    br (decide (x_15 < ((yd s_1).length:Int)))
     ((idx (yd s_1) x_15).bind fun x_16 =>
     br (decide (x_16 < (48:Int)))
      (some (.done (.inl ((0:Int),false))))
      (br (decide ((57:Int) < x_16))
       (some (.done (.inl ((0:Int),false))))
       ((zbd .u64 (10:Int) n_14).bind fun x_17 =>
       (Yb .u8 x_16 (48:Int)).bind fun x_18 =>
       (zO .u64 x_17 (Go.IntKind.wrap .u64 x_18)).bind fun x_19 =>
       br (decide ((1125899906842624:Int) < x_19))
        (some (.done (.inl ((0:Int),false))))
        ((zO .i64 x_15 (1:Int)).bind fun x_20 =>
        some (.next (x_19,x_20))))))
     (some (.done (.inr n_14)))) ((0:Int),(0:Int))).bind fun x_24 =>
   Sum.elim
    (fun (x_21,x_22) =>
    some (x_21,x_22))
    (fun n_23 =>
    some (n_23,true)) x_24))
def yN.ann:Ann:=(.two .no (.two .no (.two .no (.two (.two .no (.loop [2,3,4,6,22,23,24,25,26,27,28,29,30,31,32,33,34,35,36,37,38,39,40] [] [.slot 4 .u64 none,.slot 22 .i64 none] [(.ret,[.slot 2 .u64 none,.slot 3 .bool none]),(.exit 0,[.slot 4 .u64 none])] .no)) .no))))
set_option maxRecDepth 100000 in
theorem yN.fn:FnT Tryz.prog 90 [.d .str] [.u64,.bool] yN :=
 FnT.of (X:=ctx 0 []) Tryz.mixed yN.ann Tryz.func90 rfl (by kernel_rfl) (Nat.le_of_ble_eq_true rfl) (fun x=>by kernel_rfl)
noncomputable def yN.spec:ze Tryz.prog:=ze.t 90 [.d .str] [.u64,.bool] yN (by kernel_rfl) yN.fn
noncomputable def zI:List UInt8->Option (Int × Bool) :=
 fun s_1 =>
 br (s_1 == ([]:List UInt8))
  (some ((0:Int),false))
  ((yi s_1 (0:Int)).bind fun x_2 =>
  br (x_2 == (48:Int))
   (br (decide ((1:Int) < (s_1.length:Int)))
    (some ((0:Int),false))
    ((qO (σ:=Int × Int) (ρ:=(Int × Bool) ⊕ (Int)) (fun (n_3,i_4) =>
     br (decide (i_4 < (s_1.length:Int)))
      ((yi s_1 i_4).bind fun x_5 =>
      br (decide (x_5 < (48:Int)))
       (some (.done (.inl ((0:Int),false))))
       ((yi s_1 i_4).bind fun x_6 =>
       br (decide ((57:Int) < x_6))
        (some (.done (.inl ((0:Int),false))))
        ((zbd .u64 (10:Int) n_3).bind fun x_7 =>
        (yi s_1 i_4).bind fun x_8 =>
        (Yb .u8 x_8 (48:Int)).bind fun x_9 =>
        (zO .u64 x_7 (Go.IntKind.wrap .u64 x_9)).bind fun x_10 =>
        br (decide ((1125899906842624:Int) < x_10))
         (some (.done (.inl ((0:Int),false))))
         ((zO .i64 i_4 (1:Int)).bind fun x_11 =>
         some (.next (x_10,x_11))))))
      (some (.done (.inr n_3)))) ((0:Int),(0:Int))).bind fun x_15 =>
    Sum.elim
     (fun (x_12,x_13) =>
     some (x_12,x_13))
     (fun n_14 =>
     some (n_14,true)) x_15))
   ((qO (σ:=Int × Int) (ρ:=(Int × Bool) ⊕ (Int)) (fun (n_16,i_17) =>
    br (decide (i_17 < (s_1.length:Int)))
     ((yi s_1 i_17).bind fun x_18 =>
     br (decide (x_18 < (48:Int)))
      (some (.done (.inl ((0:Int),false))))
      ((yi s_1 i_17).bind fun x_19 =>
      br (decide ((57:Int) < x_19))
       (some (.done (.inl ((0:Int),false))))
       ((zbd .u64 (10:Int) n_16).bind fun x_20 =>
       (yi s_1 i_17).bind fun x_21 =>
       (Yb .u8 x_21 (48:Int)).bind fun x_22 =>
       (zO .u64 x_20 (Go.IntKind.wrap .u64 x_22)).bind fun x_23 =>
       br (decide ((1125899906842624:Int) < x_23))
        (some (.done (.inl ((0:Int),false))))
        ((zO .i64 i_17 (1:Int)).bind fun x_24 =>
        some (.next (x_23,x_24))))))
     (some (.done (.inr n_16)))) ((0:Int),(0:Int))).bind fun x_28 =>
   Sum.elim
    (fun (x_25,x_26) =>
    some (x_25,x_26))
    (fun n_27 =>
    some (n_27,true)) x_28))
def zI.ann:Ann:=(.two .no (.two .no (.two .no (.two (.two .no (.loop [2,3,4,5,18,19,20,21,22,23,24,25,26,27,28,29,30,31,32,33,34,35,36,37,38,39,40,41,42,43] [] [.slot 4 .u64 none,.slot 5 .i64 none] [(.ret,[.slot 2 .u64 none,.slot 3 .bool none]),(.exit 0,[.slot 4 .u64 none])] .no)) .no))))
set_option maxRecDepth 100000 in
theorem zI.fn:FnT Tryz.prog 70 [.d .str] [.u64,.bool] zI :=
 FnT.of (X:=ctx 0 []) Tryz.mixed zI.ann Tryz.func70 rfl (by kernel_rfl) (Nat.le_of_ble_eq_true rfl) (fun x=>by kernel_rfl)
noncomputable def zI.spec:ze Tryz.prog:=ze.t 70 [.d .str] [.u64,.bool] zI (by kernel_rfl) zI.fn
open Go Go.Eng Go.RowKit Go.X Go.Seq
def zbc:Int->List UInt8->Int × Bool
 | n,[]=>(n,true)
 | n,c :: l=>if c.toNat < 48 ∨ 57 < c.toNat then (0,false) else if 1125899906842624 < 10 * n + ((c.toNat:Int) - 48) then (0,false) else zbc (10 * n + ((c.toNat:Int) - 48)) l
def Zk (s:List UInt8):Int × Bool:=if s = [] ∨ (s.head? = some 48/\1 < s.length) then (0,false) else zbc 0 s
theorem zf2:∀ {l:List UInt8} {n:Int},0 <= n->n <= 1125899906842624->0 <= (zbc n l).1/\(zbc n l).1 <= 1125899906842624
 | [],n,h0,h1=>⟨h0,h1⟩
 | c :: l,n,h0,h1=>by
  unfold zbc
  split
  ·exact ⟨Int.le_refl _,by decide⟩
  ·split
   ·exact ⟨Int.le_refl _,by decide⟩
   ·exact zf2 (by omega) (by omega)
theorem zka:∀ {l:List UInt8} {n:Int},(zbc n l).2 = false->(zbc n l).1 = 0
 | [],n,h=>by cases h
 | c :: l,n,h=>by
  unfold zbc at h ⊢
  split at h
  ·rename_i h1; rw [if_pos h1]
  ·rename_i h1
   rw [if_neg h1]
   split at h
   ·rename_i h2; rw [if_pos h2]
   ·rename_i h2; rw [if_neg h2]; exact zka h
theorem QL (s:List UInt8):0 <= (Zk s).1/\(Zk s).1 <= 1125899906842624:=by
 unfold Zk
 split
 ·exact ⟨Int.le_refl _,by decide⟩
 ·exact zf2 (Int.le_refl _) (by decide)
theorem zkb {s:List UInt8} (F:Int × Int->Option (zar (Int × Int) ((Int × Bool) ⊕ Int)))
  (hF:∀ (n:Int) (i:Nat) (h:i < s.length),0 <= n->n <= 1125899906842624->F (n,(i:Int)) = some (if s[i].toNat < 48 ∨ 57 < s[i].toNat then .done (.inl (0,false)) else if 1125899906842624 < 10 * n + ((s[i].toNat:Int) - 48) then .done (.inl (0,false)) else .next (10 * n + ((s[i].toNat:Int) - 48),(i:Int) + 1)))
  (hE:∀ n,F (n,(s.length:Int)) = some (.done (.inr n))) :
  ∀ (k i:Nat) (n:Int),i + k = s.length->0 <= n->n <= 1125899906842624->qO F (n,(i:Int)) = some (if (zbc n (s.drop i)).2 then .inr (zbc n (s.drop i)).1 else .inl (0,false))
 | 0,i,n,hi,h0,h1=>by
  have:i = s.length:=by omega
  subst this
  rw [qE,hE,List.drop_eq_nil_of_le (Nat.le_refl _)]
  rfl
 | k + 1,i,n,hi,h0,h1=>by
  have hlt:i < s.length:=by omega
  rw [qE,hF n i hlt h0 h1,List.drop_eq_getElem_cons hlt]
  unfold zbc
  by_cases c1:s[i].toNat < 48 ∨ 57 < s[i].toNat
  ·rw [if_pos c1,if_pos c1]; rfl
  ·rw [if_neg c1,if_neg c1]
   by_cases c2:1125899906842624 < 10 * n + ((s[i].toNat:Int) - 48)
   ·rw [if_pos c2,if_pos c2]; rfl
   ·rw [if_neg c2,if_neg c2]
    have:=zkb F hF hE k (i + 1) (10 * n + ((s[i].toNat:Int) - 48)) (by omega) (by omega) (by omega)
    dsimp only
    rw [show (i:Int) + 1 = ((i + 1:Nat):Int) by omega,this]
theorem ziG {n:Int} (h0:0 <= n) (h1:n < 18446744073709551616):InR .u64 n:=by
 show IntKind.wrap .u64 n = n
 rw [IntKind.wrap_u64]; omega
theorem zq4 {a b:Int} (h0:0 <= a * b) (h1:a * b < 18446744073709551616):zbd .u64 a b = some (a * b):=by
 unfold zbd; rw [if_pos (ziG h0 h1)]
theorem ziH {a b:Int} (h0:0 <= a + b) (h1:a + b < 18446744073709551616):zO .u64 a b = some (a + b):=by
 unfold zO; rw [if_pos (ziG h0 h1)]
theorem zsg {a b:Int} (h0:0 <= a - b) (h1:a - b < 256):Yb .u8 a b = some (a - b):=by
 unfold Yb
 rw [if_pos]
 show IntKind.wrap .u8 (a - b) = a - b
 rw [IntKind.wrap_u8]; omega
theorem zpf {n:Int} {c:Nat} {i:Nat} (h0:0 <= n) (h1:n <= 1125899906842624) (hi:i < 1000000) {α:Type} (x:α) (y:Int × Int->α) :
  (bif decide ((c:Int) < (48:Int)) then some x else bif decide ((57:Int) < (c:Int)) then some x else
   (zbd .u64 (10:Int) n).bind fun x_6=>(Yb .u8 (c:Int) (48:Int)).bind fun x_7=>(zO .u64 x_6 (Go.IntKind.wrap .u64 x_7)).bind fun x_8=>bif decide ((1125899906842624:Int) < x_8) then some x else (zO .i64 (i:Int) (1:Int)).bind fun x_9=>some (y (x_8,x_9))) =
  some (if c < 48 ∨ 57 < c then x else if 1125899906842624 < 10 * n + ((c:Int) - 48) then x else y (10 * n + ((c:Int) - 48),(i:Int) + 1)):=by
 by_cases c1:c < 48
 ·rw [decide_eq_true (show (c:Int) < 48 by omega),if_pos (.inl c1)]; rfl
 ·rw [decide_eq_false (show ¬ (c:Int) < 48 by omega)]
  by_cases c2:57 < c
  ·rw [decide_eq_true (show (57:Int) < (c:Int) by omega),if_pos (.inr c2)]; rfl
  ·rw [decide_eq_false (show ¬ (57:Int) < (c:Int) by omega),if_neg (by omega)]
   have w1:IntKind.wrap .u64 ((c:Int) - 48) = (c:Int) - 48:=by rw [IntKind.wrap_u64]; omega
   simp only [cond_false]
   rw [zq4 (by omega) (by omega),zsg (by omega) (by omega)]
   simp only [zug,w1]
   rw [ziH (by omega) (by omega)]
   simp only [zug,Zv (a:=(i:Int)) (b:=1) (by omega)]
   by_cases c3:1125899906842624 < 10 * n + ((c:Int) - 48)
   ·rw [decide_eq_true c3,if_pos c3]; rfl
   ·rw [decide_eq_false c3,if_neg c3]; rfl
theorem zq5 {s:List UInt8} {z:Int × Bool} (hz:z = zbc 0 s) (hb:z.2 = false->z.1 = 0) :
  ((some (if z.2 then (.inr z.1:(Int × Bool) ⊕ Int) else .inl (0,false))).bind fun x_13=>Sum.elim (fun r:Int × Bool=>some (r.1,r.2)) (fun n_12:Int=>some (n_12,true)) x_13) = some (zbc 0 s):=by
 subst hz
 cases h:(zbc 0 s).2 with
 | true=>rw [if_pos rfl]; show some ((zbc 0 s).1,true) = _; rw [<- h]
 | false=>rw [if_neg (by simp),show zbc 0 s = (0,false) from Prod.ext (hb h) h]; rfl
theorem zhG {s:List UInt8} (hs:s.length < 1000000):yN s = some (Zk s):=by
 have hlen:(yd s).length = s.length:=by simp [yd]
 have hl:=zkb (s:=s) (fun p=>br (decide (p.2 < ((yd s).length:Int))) ((idx (yd s) p.2).bind fun x_5=>br (decide (x_5 < (48:Int))) (some (.done (.inl ((0:Int),false)))) (br (decide ((57:Int) < x_5)) (some (.done (.inl ((0:Int),false))))
   ((zbd .u64 (10:Int) p.1).bind fun x_6=>(Yb .u8 x_5 (48:Int)).bind fun x_7=>(zO .u64 x_6 (Go.IntKind.wrap .u64 x_7)).bind fun x_8=>br (decide ((1125899906842624:Int) < x_8)) (some (.done (.inl ((0:Int),false)))) ((zO .i64 p.2 (1:Int)).bind fun x_9=>some (.next (x_8,x_9)))))) (some (.done (.inr p.1))))
  (fun n i hi h0 h1=>by
   have hidx:idx (yd s) (i:Int) = some ((s[i].toNat:Int)):=by rw [QM,zbx,List.getElem?_eq_getElem hi]; rfl
   simp only [hlen,hidx,decide_eq_true (show (i:Int) < (s.length:Int) by omega),br,cond_true,zug]
   exact zpf h0 h1 (by omega) _ (fun p=>zar.next p))
  (fun n=>by simp only [hlen,decide_eq_false (show ¬ (s.length:Int) < (s.length:Int) by omega),br,cond_false]) s.length 0 0 (by omega) (by omega) (by omega)
 rw [List.drop_zero] at hl
 unfold yN Zk
 cases s with
 | nil=>rfl
 | cons c s =>
  have e1:(c :: s == ([]:List UInt8)) = false:=rfl
  have e2:yi (c :: s) 0 = some ((c.toNat:Int)):=rfl
  rw [e1,e2]
  have fin:=zq5 (s:=c :: s) rfl (zka (l:=c :: s) (n:=0))
  simp only [br,cond_false,zug] at hl fin ⊢
  by_cases hc:c = 48
  ·subst hc
   rw [show (((48:UInt8).toNat:Int) == (48:Int)) = true from rfl]
   by_cases hlt:1 < (48 :: s).length
   ·rw [decide_eq_true (by omega),if_pos (.inr ⟨rfl,hlt⟩)]; rfl
   ·rw [decide_eq_false (by omega),if_neg (by simp at hlt ⊢; omega)]
    simp only [cond_true,cond_false]
    refine Eq.trans ?_ fin
    exact congrArg (fun z:Option ((Int × Bool) ⊕ Int)=>z.bind fun x_13=>Sum.elim (fun r:Int × Bool=>some (r.1,r.2)) (fun n_12:Int=>some (n_12,true)) x_13) hl
  ·rw [show ((c.toNat:Int) == (48:Int)) = false from beq_eq_false_iff_ne.2 (zge (n:=48) (by omega) hc),if_neg (by simp [hc])]
   simp only [cond_false]
   refine Eq.trans ?_ fin
   exact congrArg (fun z:Option ((Int × Bool) ⊕ Int)=>z.bind fun x_13=>Sum.elim (fun r:Int × Bool=>some (r.1,r.2)) (fun n_12:Int=>some (n_12,true)) x_13) hl
theorem zq6 (s:List UInt8):zI s = yN s:=by
 unfold zI yN
 have hlen:(yd s).length = s.length:=by simp [yd]
 rw [hlen]
 simp only [QM]
 have e:(fun (p:Int × Int)=>br (decide (p.2 < (s.length:Int))) ((yi s p.2).bind fun x_5=>br (decide (x_5 < (48:Int))) (some (zar.done (Sum.inl ((0:Int),false)))) ((yi s p.2).bind fun x_6=>br (decide ((57:Int) < x_6)) (some (.done (.inl ((0:Int),false)))) ((zbd .u64 (10:Int) p.1).bind fun x_7=>(yi s p.2).bind fun x_8=>(Yb .u8 x_8 (48:Int)).bind fun x_9=>(zO .u64 x_7 (Go.IntKind.wrap .u64 x_9)).bind fun x_10=>br (decide ((1125899906842624:Int) < x_10)) (some (.done (.inl ((0:Int),false)))) ((zO .i64 p.2 (1:Int)).bind fun x_11=>some (zar.next (x_10,x_11)))))) (some (zar.done (Sum.inr p.1)):Option (zar (Int × Int) ((Int × Bool) ⊕ Int)))) =
  (fun (p:Int × Int)=>br (decide (p.2 < (s.length:Int))) ((yi s p.2).bind fun x_5=>br (decide (x_5 < (48:Int))) (some (.done (.inl ((0:Int),false)))) (br (decide ((57:Int) < x_5)) (some (.done (.inl ((0:Int),false)))) ((zbd .u64 (10:Int) p.1).bind fun x_6=>(Yb .u8 x_5 (48:Int)).bind fun x_7=>(zO .u64 x_6 (Go.IntKind.wrap .u64 x_7)).bind fun x_8=>br (decide ((1125899906842624:Int) < x_8)) (some (.done (.inl ((0:Int),false)))) ((zO .i64 p.2 (1:Int)).bind fun x_9=>some (.next (x_8,x_9)))))) (some (.done (.inr p.1)))):=by
  funext p
  cases h:yi s p.2 with
  | none=>rfl
  | some c =>
   simp only [zug]
 have e':∀ q,qO _ q = qO _ q:=fun q=>congrArg (fun F=>qO F q) e
 simp only [e']
open Go Go.Eng Go.RowKit Go.X Go.Seq
def dec (n:Int):List UInt8:=Go.Lib.decDigits n.toNat
theorem zmT {n:Nat} (h:n < 10):Go.Lib.decDigits n = [UInt8.ofNat (48 + n)]:=by rw [Go.Lib.decDigits,dif_pos h]
theorem zpg {n:Nat} (h:¬ n < 10):Go.Lib.decDigits n = Go.Lib.decDigits (n / 10)++[UInt8.ofNat (48 + n % 10)]:=by rw [Go.Lib.decDigits,dif_neg h]
theorem zeA {d:Nat} (h:d < 10):qr ((UInt8.ofNat (48 + d)).toNat:Int) = true/\UInt8.ofNat (48 + d) ≠ 35:=by
 rcases (by omega:d = 0 ∨ d = 1 ∨ d = 2 ∨ d = 3 ∨ d = 4 ∨ d = 5 ∨ d = 6 ∨ d = 7 ∨ d = 8 ∨ d = 9) with rfl | rfl | rfl | rfl | rfl | rfl | rfl | rfl | rfl | rfl <;> exact ⟨by decide,by decide⟩
theorem zmU:∀ (k n:Nat),n < k->((Go.Lib.decDigits n).all fun c=>qr (c.toNat:Int)) = true/\∃ c l,Go.Lib.decDigits n = c :: l/\c ≠ 35/\(1 <= n->c ≠ 48)
 | 0,n,h=>by omega
 | k + 1,n,h=>by
  by_cases hn:n < 10
  ·rw [zmT hn]
   obtain ⟨h1,h2⟩:=zeA hn
   refine ⟨by rw [List.all_cons,h1]; rfl,_,_,rfl,h2,fun h0=>?_⟩
   rcases (by omega:n = 1 ∨ n = 2 ∨ n = 3 ∨ n = 4 ∨ n = 5 ∨ n = 6 ∨ n = 7 ∨ n = 8 ∨ n = 9) with rfl | rfl | rfl | rfl | rfl | rfl | rfl | rfl | rfl <;> decide
  ·rw [zpg hn]
   obtain ⟨h1,c,l,h2,h3,h4⟩:=zmU k (n / 10) (by omega)
   obtain ⟨h5,_⟩:=zeA (d:=n % 10) (by omega)
   refine ⟨by rw [List.all_append,h1,List.all_cons,h5]; rfl,c,l++[UInt8.ofNat (48 + n % 10)],by rw [h2]; rfl,h3,fun _=>h4 (by omega)⟩
end Go.Proofs.YtjcbpfhlgebgdaaGreatDoor
