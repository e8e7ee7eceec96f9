import Derived.Test.YtjcbpfhlgebgdaaGreatDoorP3l
open Option renaming bind_some -> zug
set_option linter.unusedSimpArgs false
set_option linter.unusedVariables false
namespace Go.Proofs.YtjcbpfhlgebgdaaGreatDoor
open Go Go.Eng Go.RowKit Go.X Go.Seq
theorem zlI {S:List UInt8} (hS:S.length <= 1000000):∀ (k:Nat) (acc:List UInt8) (p:Int),0 <= p->p <= (S.length:Int)->(S.length:Int) - p < (k:Int) ->
  ∃ r q,qF (S.length:Int) (nxF S) (esF S) k acc p = some (r,q)/\q <= (S.length:Int)
 | 0,acc,p,h0,h1,hk=>by omega
 | k + 1,acc,p,h0,h1,hk=>by
  unfold qF
  by_cases hp:p < (S.length:Int)
  ·rw [if_pos hp]
   obtain ⟨c,hc,g0,g1⟩:=Q9 h0 hp
   have hn:nxF S p = some (c,p + 1):=by unfold nxF; rw [zdX hS h0 hp hc]; rfl
   rw [hn]
   simp only [zug]
   by_cases e34:c = 34
   ·rw [if_pos e34]; exact ⟨_,_,rfl,by omega⟩
   ·rw [if_neg e34]
    by_cases e92:c = 92
    ·rw [if_pos e92]
     subst e92
     obtain ⟨d,b,q1,he,_⟩:=zhI hS h0 hp hc
     have hes:esF S (p + 1) = some ((d,b),q1):=by unfold esF; rw [if_pos (by omega),he]; rfl
     obtain ⟨_,hq1,hq2,_,_⟩:=zgU he (by omega)
     dsimp only at hq1 hq2
     rw [hes]
     simp only [zug]
     cases b with
     | true=>rw [if_pos rfl]; exact zlI hS k _ q1 (by omega) hq2 (by omega)
     | false=>rw [if_neg (by simp)]; exact ⟨_,_,rfl,hq2⟩
    ·rw [if_neg e92]
     by_cases hr:32 <= c/\c < 127
     ·rw [if_pos hr]; exact zlI hS k _ (p + 1) (by omega) (by omega) (by omega)
     ·rw [if_neg hr]; exact ⟨_,_,rfl,by omega⟩
  ·rw [if_neg hp]; exact ⟨_,_,rfl,h1⟩
theorem zay (S:List UInt8):(qR S).data.toList = S:=by simp [qR]
theorem Y3 (S:List UInt8):(qR S).size = S.length:=List.size_toArray
theorem QN (S:List UInt8) (i:Nat):(qR S).data[i]? = S[i]?:=by simp [qR]
theorem zra {S:List UInt8} (hS:S.length <= 1000000) {p:Int} (h0:0 <= p) (h1:p <= (S.length:Int)):∃ a ok q,qdF (qR S) p = some ((a,ok),q)/\q <= (S.length:Int):=by
 obtain ⟨⟨a,ok⟩,q,h,hq⟩:=zlI hS (S.length + 1) [] p h0 h1 (by omega)
 refine ⟨a,ok,q,?_,hq⟩
 unfold qdF zu
 rw [zay]
 dsimp only
 rw [if_pos ⟨hS,h0,h1⟩,h]
 rfl
theorem zbx (S:List UInt8) (i:Nat):yi S (i:Int) = (S[i]?).map fun b=>(b.toNat:Int):=by
 unfold yi idx; rw [if_pos (by omega)]; rfl
theorem zdk {S:List UInt8} {q:Int} (hq:0 <= q) {c:UInt8}:S[q.toNat]? = some c ↔ yi S q = some (c.toNat:Int):=by
 unfold yi idx
 rw [if_pos hq]
 cases S[q.toNat]? with
 | none=>simp
 | some x=>simp only [Option.map_some,Option.some.injEq]; exact ⟨fun e=>by rw [e],fun e=>UInt8.toNat_inj.1 (by omega)⟩
def zdl (S:List UInt8) (q:Int):Bool:=decide ((S.length:Int) <= q) || decide (S[q.toNat]? = some 32)
theorem zkf {S:List UInt8} (hS:S.length <= 1000000) {p:Int} (h0:0 <= p) (h1:p <= (S.length:Int)) (hc:yi S p ≠ some 34) :
  bdF (qR S) p = some (((S.drop p.toNat).take (yj (S.drop p.toNat)),za9 ((S.drop p.toNat).take (yj (S.drop p.toNat)))),((p.toNat + yj (S.drop p.toNat):Nat):Int)):=by
 unfold bdF zhw
 rw [Y3,if_pos ⟨h0,h1⟩,QN,if_neg (fun h=>hc ((zdk h0).1 h)),zay]
 rw [zph (by simp only [List.length_take,List.length_drop]; omega)]
 simp only [Option.map_some,Option.some.injEq,Prod.mk.injEq,true_and]
 omega
theorem zmX {S:List UInt8} (hS:S.length <= 1000000) {p:Int} (h0:0 <= p) (h1:p <= (S.length:Int)) :
  ∃ t is q,bdF (qR S) p = some ((t,is),q)/\p <= q/\q <= (S.length:Int)/\(is = true->p < q)/\zh (S,p) = some (if is && zdl S q then (t,q) else ([],-1)):=by
 have hb:∀ b,bdF (qR S) p = some b->p <= b.2/\(b.1.2 = true->p < b.2):=fun b h=>by
  obtain ⟨⟨t,is⟩,q⟩:=b
  have:=zjC h
  exact ⟨this.2.1,this.2.2.1⟩
 by_cases hc:yi S p = some 34
 ·have hp:p < (S.length:Int):=by
   unfold yi idx at hc
   rw [if_pos h0] at hc
   by_cases hh:p < (S.length:Int)
   ·exact hh
   ·rw [List.getElem?_eq_none (by omega)] at hc; cases hc
  obtain ⟨a,ok,q,hq,hq1⟩:=zra hS (p:=p + 1) (by omega) (by omega)
  have hbd:bdF (qR S) p = some ((a,ok),q):=by
   unfold bdF zhw
   rw [Y3,if_pos ⟨h0,h1⟩,QN,if_pos ((zdk h0).2 hc),hq]
  have h2:=hb _ hbd
  refine ⟨a,ok,q,hbd,h2.1,hq1,h2.2,?_⟩
  have hq0:0 <= q:=Int.le_trans h0 h2.1
  rw [zke hS h0 hp hc hq hq1]
  unfold zdl
  have:decide (yi S q = some 32) = decide (S[q.toNat]? = some 32):=decide_eq_decide.2 (zdk hq0 (c:=32)).symm
  rw [this]
 ·obtain ⟨i,rfl⟩:=Int.eq_ofNat_of_zero_le h0
  have hbp:=zlH hS i (by omega) hc
  have hsc:=(zcA (S.drop i)).1
  have hbl:=zpj (S.drop i)
  rw [List.length_drop] at hbl
  have hbd:bdF (qR S) (i:Int) = some (((S.drop i).take (yj (S.drop i)),za9 ((S.drop i).take (yj (S.drop i)))),((i + yj (S.drop i):Nat):Int)):=by
   exact zkf hS h0 h1 hc
  have h2:=hb _ hbd
  refine ⟨_,_,_,hbd,h2.1,by omega,h2.2,?_⟩
  rw [hbp]
  unfold zdl
  rw [show ((i + yj (S.drop i):Nat):Int).toNat = i + yj (S.drop i) from rfl]
  rw [List.getElem?_drop]
  have:decide (S[i + yj (S.drop i)]? = none) = decide ((S.length:Int) <= ((i + yj (S.drop i):Nat):Int)):=decide_eq_decide.2 (by rw [List.getElem?_eq_none_iff]; omega)
  rw [this]
open Go Go.Eng Go.RowKit Go.X Go.Seq
theorem zf4 (P:UInt8->Bool):∀ (l:List UInt8),(∀ j,j < (l.takeWhile P).length->∃ c,l[j]? = some c/\P c = true)/\(∀ c,l[(l.takeWhile P).length]? = some c->P c = false)
 | []=>⟨fun j h=>by simp at h,fun c h=>by simp at h⟩
 | x :: l=>by
  rw [List.takeWhile_cons]
  cases hx:P x with
  | false=>exact ⟨fun j h=>by simp at h,fun c h=>by simp at h; rw [<- h]; exact hx⟩
  | true =>
   obtain ⟨h1,h2⟩:=zf4 P l
   refine ⟨fun j h=>?_,fun c h=>h2 c (by simpa using h)⟩
   cases j with
   | zero=>exact ⟨x,rfl,hx⟩
   | succ j=>exact h1 j (by simpa using h)
def zf5 (c:UInt8):Bool:=!decide (c = 32) && !decide (c = 61) && !decide (c = 34)
def eL (l:List UInt8):Nat:=(l.takeWhile zf5).length
theorem ztg (l:List UInt8):eL l <= l.length:=(List.takeWhile_sublist _).length_le
theorem zkg {S:List UInt8} (hS:S.length <= 1000000) (F:Int->Option (zar Int Int))
  (hF:∀ i:Nat,i < S.length->F (i:Int) = some (if zf5 (S[i]?.getD 0) then .next ((i:Int) + 1) else .done (i:Int))) (hE:F (S.length:Int) = some (.done (S.length:Int))) :
  ∀ (k i:Nat),i + k = S.length->qO F (i:Int) = some ((i + eL (S.drop i):Nat):Int)
 | 0,i,hi=>by
  have:i = S.length:=by omega
  subst this
  rw [qE,hE,List.drop_eq_nil_of_le (by omega)]
  rfl
 | k + 1,i,hi=>by
  have hlt:i < S.length:=by omega
  rw [qE,hF i hlt,List.getElem?_eq_getElem hlt,Option.getD_some,List.drop_eq_getElem_cons hlt]
  unfold eL
  rw [List.takeWhile_cons]
  cases hx:zf5 S[i] with
  | false=>simp
  | true =>
   simp only [if_true]
   have:=zkg hS F hF hE k (i + 1) (by omega)
   rw [show (i:Int) + 1 = ((i + 1:Nat):Int) by omega,this]
   simp only [List.length_cons]
   unfold eL
   congr 1
   omega
theorem zpk {l:List UInt8} (h:l[eL l]? = some 61):Lib.indexByte l 61 = (eL l:Int):=by
 have hge:=Lib.indexByte_ge l 61
 by_cases hn:Lib.indexByte l 61 = -1
 ·exact absurd h (Lib.indexByte_none hn _)
 ·obtain ⟨o,ho⟩:=Int.eq_ofNat_of_zero_le (show 0 <= Lib.indexByte l 61 by omega)
  obtain ⟨h1,h2⟩:=Lib.indexByte_some ho
  have h3:¬ eL l < o:=fun hlt=>h2 _ hlt h
  have h4:¬ o < eL l:=fun hlt=>by
   obtain ⟨c,hc,hk⟩:=(zf4 zf5 l).1 o hlt
   rw [h1] at hc
   cases hc
   exact absurd hk (by decide)
  rw [ho]
  have:o = eL l:=by omega
  rw [this]
theorem ziJ {l:List UInt8} (h:l[eL l]? = some 61):yj l < l.length/\l[yj l]? ≠ some 32:=by
 have hel:eL l < l.length:=(List.getElem?_eq_some_iff.1 h).1
 have hle:yj l <= eL l:=by
  rcases Nat.lt_or_ge (eL l) (yj l) with hlt | hge
  ·obtain ⟨c,hc,hk⟩:=(zf4 (fun c=>qr (c.toNat:Int)) l).1 _ hlt
   rw [h] at hc
   cases hc
   exact absurd hk (by decide)
  ·exact hge
 refine ⟨by omega,fun h32=>?_⟩
 rcases Nat.lt_or_ge (yj l) (eL l) with hlt | hge
 ·obtain ⟨c,hc,hk⟩:=(zf4 zf5 l).1 _ hlt
  rw [h32] at hc
  cases hc
  exact absurd hk (by decide)
 ·have:yj l = eL l:=by omega
  rw [this,h] at h32
  exact absurd h32 (by decide)
open Go Go.Eng Go.RowKit Go.X Go.Seq
def znZ (c:UInt8):Bool:=decide (97 <= c.toNat) && decide (c.toNat <= 122)
def okC (c:UInt8):Bool:=decide (c.toNat = 45) || (decide (48 <= c.toNat) && decide (c.toNat <= 57))
def nmA:Nat->List UInt8->Bool
 | _,[]=>true
 | i,c :: l=>(znZ c || (decide (i ≠ 0) && okC c)) && nmA (i + 1) l
def zdm (l:List UInt8):Bool:=nmA 0 l && (decide (1 <= l.length) && decide (l.length <= 20))
theorem zmY:∀ {i:Nat} {l:List UInt8},nmA i l = true->∀ c ∈ l,zf5 c = true
 | i,[],_,c,h=>by cases h
 | i,x :: l,h,c,hc=>by
  unfold nmA at h
  rw [Bool.and_eq_true] at h
  rcases List.mem_cons.1 hc with rfl | hc
  ·have h1:=h.1
   unfold znZ okC at h1
   unfold zf5
   have a1:c ≠ 32:=by rintro rfl; exact absurd h1 (by simp)
   have a2:c ≠ 61:=by rintro rfl; exact absurd h1 (by simp)
   have a3:c ≠ 34:=by rintro rfl; exact absurd h1 (by simp)
   rw [decide_eq_false a1,decide_eq_false a2,decide_eq_false a3]; rfl
  ·exact zmY h.2 c hc
theorem zhJ {s:List UInt8} (F:Int->Option (zar Int (Bool ⊕ Unit)))
  (hF:∀ (i:Nat) (h:i < s.length),F (i:Int) = some (if znZ s[i] || (decide (i ≠ 0) && okC s[i]) then .next ((i:Int) + 1) else .done (.inl false))) (hE:F (s.length:Int) = some (.done (.inr ()))) :
  ∀ (k i:Nat),i + k = s.length->qO F (i:Int) = some (if nmA i (s.drop i) then .inr () else .inl false)
 | 0,i,hi=>by
  have:i = s.length:=by omega
  subst this
  rw [qE,hE,List.drop_eq_nil_of_le (Nat.le_refl _)]
  rfl
 | k + 1,i,hi=>by
  have hlt:i < s.length:=by omega
  rw [qE,hF i hlt,List.drop_eq_getElem_cons hlt]
  unfold nmA
  cases hx:(znZ s[i] || (decide (i ≠ 0) && okC s[i])) with
  | false=>simp
  | true =>
   have:=zhJ F hF hE k (i + 1) (by omega)
   simp only [if_true,Bool.true_and]
   rw [show (i:Int) + 1 = ((i + 1:Nat):Int) by omega,this]
theorem zn0 {α:Type} (i:Nat) (c:UInt8) (x y:α) :
  (bif decide ((97:Int) <= (c.toNat:Int)) then
   bif !decide ((c.toNat:Int) <= (122:Int)) then
    bif (i:Int) == (0:Int) then some x
    else bif (c.toNat:Int) != (45:Int) then bif decide ((c.toNat:Int) < (48:Int)) then some x else bif decide ((57:Int) < (c.toNat:Int)) then some x else some y else some y
   else some y
  else
   bif (i:Int) == (0:Int) then some x
   else bif (c.toNat:Int) != (45:Int) then bif decide ((c.toNat:Int) < (48:Int)) then some x else bif decide ((57:Int) < (c.toNat:Int)) then some x else some y else some y) =
  some (if znZ c || (decide (i ≠ 0) && okC c) then y else x):=by
 unfold znZ okC
 have e0:((i:Int) == (0:Int)) = decide (i = 0):=by
  by_cases h:i = 0
  ·subst h; rfl
  ·rw [decide_eq_false h]; exact beq_eq_false_iff_ne.2 (by omega)
 have e1:((c.toNat:Int) != (45:Int)) = !decide (c.toNat = 45):=by
  by_cases h:c.toNat = 45
  ·rw [h]; rfl
  ·rw [decide_eq_false h]; exact bne_iff_ne.2 (by omega)
 have e2:decide ((97:Int) <= (c.toNat:Int)) = decide (97 <= c.toNat):=decide_eq_decide.2 (by omega)
 have e3:decide ((c.toNat:Int) <= (122:Int)) = decide (c.toNat <= 122):=decide_eq_decide.2 (by omega)
 have e4:decide ((c.toNat:Int) < (48:Int)) = !decide (48 <= c.toNat):=by rw [<- decide_not]; exact decide_eq_decide.2 (by omega)
 have e5:decide ((57:Int) < (c.toNat:Int)) = !decide (c.toNat <= 57):=by rw [<- decide_not]; exact decide_eq_decide.2 (by omega)
 rw [e0,e1,e2,e3,e4,e5,show decide (i ≠ 0) = !decide (i = 0) from decide_not]
 cases decide (97 <= c.toNat) <;> cases decide (c.toNat <= 122) <;> cases decide (i = 0) <;> cases decide (c.toNat = 45) <;> cases decide (48 <= c.toNat) <;> cases decide (c.toNat <= 57) <;> rfl
theorem zmZ {l:List UInt8} (hl:l.length <= 1000000):Zi l = some (zdm l):=by
 unfold Zi
 have hlen:(yd l).length = l.length:=by simp [yd]
 rw [hlen]
 generalize hG:(fun x_2:Int=>br (decide (x_2 < (l.length:Int))) _ _) = F
 have h0:=zhJ (s:=l) F (fun i hi=>by
  subst hG
  have hidx:idx (yd l) (i:Int) = some ((l[i].toNat:Int)):=by
   rw [QM,zbx,List.getElem?_eq_getElem hi]; rfl
  have hadd:zO .i64 (i:Int) (1:Int) = some ((i:Int) + 1):=Zv (by omega)
  simp only [hidx,decide_eq_true (show (i:Int) < (l.length:Int) by omega),br,cond_true,zug,hadd]
  exact zn0 i l[i] _ _) (by
  subst hG
  dsimp only
  rw [decide_eq_false (by omega)]; rfl) l.length 0 (by omega)
 rw [List.drop_zero] at h0
 simp only [Int.natCast_zero] at h0
 rw [h0]
 unfold zdm
 cases hn:nmA 0 l with
 | false=>rfl
 | true =>
  simp only [if_true,zug,Bool.true_and]
  have e1:decide ((1:Int) <= (l.length:Int)) = decide (1 <= l.length):=decide_eq_decide.2 (by omega)
  have e2:decide ((l.length:Int) <= (20:Int)) = decide (l.length <= 20):=decide_eq_decide.2 (by omega)
  rw [e1,e2]
  cases decide (1 <= l.length) <;> cases decide (l.length <= 20) <;> rfl
theorem zlJ {l:List UInt8} {o:Nat} (ho:Lib.indexByte l 61 = (o:Int)) (hn:zdm (l.take o) = true):l[eL l]? = some 61:=by
 obtain ⟨h1,_⟩:=Lib.indexByte_some ho
 unfold zdm at hn
 rw [Bool.and_eq_true] at hn
 have hk:=zmY hn.1
 have hol:o < l.length:=(List.getElem?_eq_some_iff.1 h1).1
 rcases Nat.lt_trichotomy (eL l) o with hlt | heq | hgt
 ·have hel:eL l < l.length:=by omega
  have hc:=List.getElem?_eq_getElem hel
  have hf:=(zf4 zf5 l).2 _ hc
  have hm:l[eL l] ∈ l.take o:=List.mem_of_getElem? (i:=eL l) (by rw [List.getElem?_take_of_lt hlt]; exact hc)
  rw [hk _ hm] at hf
  cases hf
 ·rw [heq]; exact h1
 ·obtain ⟨c,hc,hf⟩:=(zf4 zf5 l).1 o hgt
  rw [h1] at hc
  cases hc
  exact absurd hf (by decide)
theorem zkh {l:List UInt8} (hl:l.length <= 1000000):zlb l = some (zdm l):=by
 unfold zlb; rw [if_pos hl,zmZ hl]
theorem zrb {S:List UInt8} {i j:Nat} (hij:i <= j) (hj:j <= S.length):slc S (i:Int) (j:Int) = some ((S.drop i).take (j - i)):=by
 unfold slc
 rw [if_pos ⟨by omega,by omega,by omega⟩]
 congr 1
 rw [show ((j:Int)).toNat = j from rfl,show ((i:Int)).toNat = i from rfl,List.drop_take]
theorem zrc {S:List UInt8} (hS:S.length <= 1000) {p:Int} (h0:0 <= p) (h1:p <= (S.length:Int)) :
  ∃ w b q w',wdF (qR S) p = some ((w,b),q)/\q <= (S.length:Int)/\yz (S,p) = some (if b then ((⟨w.1,w.2.1,w.2.2⟩:Word),q) else (w',-1)):=by
 obtain ⟨i,rfl⟩:=Int.eq_ofNat_of_zero_le h0
 have hit:=zkg (S:=S) (by omega) (fun end_3=>br (decide (end_3 < (S.length:Int))) ((yi S end_3).bind fun x_4=>br (x_4 != (32:Int)) ((yi S end_3).bind fun x_5=>br (x_5 != (61:Int)) ((yi S end_3).bind fun x_6=>br (x_6 != (34:Int)) ((zO .i64 end_3 (1:Int)).bind fun x_7=>some (.next x_7)) (some (.done end_3))) (some (.done end_3))) (some (.done end_3))) (some (.done end_3)))
  (fun j hj=>by
   simp only [decide_eq_true (show (j:Int) < (S.length:Int) by omega),zbx,List.getElem?_eq_getElem hj,Option.map_some,zug,br,cond_true,Zv (a:=(j:Int)) (b:=1) (by omega),Option.getD_some,zf5]
   have e:∀ n:Nat,n < 256->((S[j].toNat:Int) != (n:Int)) = !decide (S[j] = UInt8.ofNat n):=fun n hn=>by
    by_cases h:S[j] = UInt8.ofNat n
    ·rw [decide_eq_true h,h,UInt8.toNat_ofNat',Nat.mod_eq_of_lt hn]; simp
    ·rw [decide_eq_false h]; exact bne_iff_ne.2 (zge hn h)
   rw [show ((S[j].toNat:Int) != (32:Int)) = !decide (S[j] = 32) from e 32 (by omega),show ((S[j].toNat:Int) != (61:Int)) = !decide (S[j] = 61) from e 61 (by omega),show ((S[j].toNat:Int) != (34:Int)) = !decide (S[j] = 34) from e 34 (by omega)]
   cases decide (S[j] = 32) <;> cases decide (S[j] = 61) <;> cases decide (S[j] = 34) <;> rfl)
  (by simp only [decide_eq_false (show ¬ (S.length:Int) < (S.length:Int) by omega),br,cond_false]) (S.length - i) i (by omega)
 have hel:=ztg (S.drop i)
 rw [List.length_drop] at hel
 have hil:i <= S.length:=by omega
 have hword:∀ (q:Int) (b:Bool) (r:(List UInt8 × Bool) × Int),(if b && (decide ((S.length:Int) <= q) || decide ((qR S).data[q.toNat]? = some 32)) then (([]:List UInt8),q) else ([],-1)) = if b && zdl S q then ([],q) else ([],-1):=fun q b r=>by rw [QN]; rfl
 have gw:(yz (S,(i:Int)) = (br (decide (((i + eL (S.drop i):Nat):Int) < (S.length:Int)))
  ((yi S ((i + eL (S.drop i):Nat):Int)).bind fun x_9 =>
  br (x_9 == (61:Int))
   ((slc S (i:Int) ((i + eL (S.drop i):Nat):Int)).bind fun x_10 =>
   (zU x_10).bind fun x_11 =>
   br (!x_11)
    (some ((⟨(i:Int),([]:List UInt8),([]:List UInt8)⟩:Word),(-1:Int)))
    ((slc S (i:Int) ((i + eL (S.drop i):Nat):Int)).bind fun x_12 =>
    (zO .i64 ((i + eL (S.drop i):Nat):Int) (1:Int)).bind fun x_13 =>
    (zh (S,x_13)).bind fun z =>
    some ((⟨(i:Int),x_12,z.1⟩:Word),z.2)))
   ((zh (S,(i:Int))).bind fun z =>
   some ((⟨(i:Int),([]:List UInt8),z.1⟩:Word),z.2)))
  ((zh (S,(i:Int))).bind fun z =>
  some ((⟨(i:Int),([]:List UInt8),z.1⟩:Word),z.2)))):=by
  unfold yz
  dsimp only
  rw [hit]
  rfl
 rw [gw]
 clear gw hit
 obtain ⟨t,is,q,b1,b2,b3,b4,b5⟩:=zmX (S:=S) (by omega) h0 h1
 have hwd:∀ (o:Nat),Lib.indexByte (S.drop i) 61 = (o:Int)->zdm ((S.drop i).take o) = false->wdF (qR S) (i:Int) = some ((((i:Int),[],t),is && zdl S q),q):=fun o ho hn=>by
  unfold wdF zgl
  rw [Y3,if_pos ⟨h0,h1⟩,zay,show ((i:Int)).toNat = i from rfl,ho,if_pos (by omega),show ((o:Int)).toNat = o from rfl,zkh (by simp only [List.length_take,List.length_drop]; omega),hn]
  simp only [zug,b1,QN]
  rfl
 have hwd2:Lib.indexByte (S.drop i) 61 = -1->wdF (qR S) (i:Int) = some ((((i:Int),[],t),is && zdl S q),q):=fun ho=>by
  unfold wdF zgl
  rw [Y3,if_pos ⟨h0,h1⟩,zay,show ((i:Int)).toNat = i from rfl,ho,if_neg (by decide)]
  simp only [zug,b1,QN]
  rfl
 have hge:=Lib.indexByte_ge (S.drop i) 61
 by_cases h61:(S.drop i)[eL (S.drop i)]? = some 61
 ·have hix:=zpk h61
  have hel2:eL (S.drop i) < (S.drop i).length:=(List.getElem?_eq_some_iff.1 h61).1
  rw [List.length_drop] at hel2
  have hidx:yi S ((i + eL (S.drop i):Nat):Int) = some 61:=by
   rw [zbx,<- List.getElem?_drop,h61]; rfl
  rw [hidx,decide_eq_true (by omega),zrb (by omega) (by omega),Nat.add_sub_cancel_left]
  simp only [br,cond_true,zug,zlF,zmZ (l:=(S.drop i).take (eL (S.drop i))) (by simp only [List.length_take,List.length_drop]; omega)]
  rw [show ((61:Int) == (61:Int)) = true from rfl]
  simp only [cond_true]
  cases hnb:zdm ((S.drop i).take (eL (S.drop i))) with
  | true =>
   simp only [Bool.not_true,cond_false]
   rw [Zv (by omega)]
   obtain ⟨t2,is2,q2,c1,c2,c3,c4,c5⟩:=zmX (S:=S) (by omega) (p:=((i + eL (S.drop i):Nat):Int) + 1) (by omega) (by omega)
   refine ⟨((i:Int),(S.drop i).take (eL (S.drop i)),t2),is2 && zdl S q2,q2,(⟨(i:Int),(S.drop i).take (eL (S.drop i)),[]⟩:Word),?_,c3,?_⟩
   ·unfold wdF zgl
    rw [Y3,if_pos ⟨h0,h1⟩,zay,show ((i:Int)).toNat = i from rfl,hix,if_pos (by omega),show ((eL (S.drop i):Nat):Int).toNat = eL (S.drop i) from rfl,zkh (by simp only [List.length_take,List.length_drop]; omega),hnb]
    simp only [zug,if_true]
    rw [show (i:Int) + ((eL (S.drop i):Int) + 1) = ((i + eL (S.drop i):Nat):Int) + 1 by omega,c1]
    simp only [zug,QN]
    rfl
   ·simp only [zug]
    rw [c5]
    simp only [zug]
    cases (is2 && zdl S q2) <;> rfl
  | false =>
   simp only [Bool.not_false,cond_true]
   refine ⟨((i:Int),[],t),is && zdl S q,q,(⟨(i:Int),[],[]⟩:Word),hwd _ hix hnb,b3,?_⟩
   have hpb:=ziJ h61
   have hne:yi S (i:Int) ≠ some 34:=fun hc=>by
    have hc':=(zdk h0 (c:=34)).2 hc
    rw [show ((i:Int)).toNat = i from rfl] at hc'
    have h3:(S.drop i)[0]? = some 34:=by rw [List.getElem?_drop]; exact hc'
    have h4:eL (S.drop i) = 0:=by
     rcases Nat.eq_zero_or_pos (eL (S.drop i)) with h | h
     ·exact h
     ·obtain ⟨c,hc,hk⟩:=(zf4 zf5 (S.drop i)).1 0 h
      rw [h3] at hc
      cases hc
      exact absurd hk (by decide)
    rw [h4,h3] at h61
    exact absurd h61 (by decide)
   have hbp:=zkf (S:=S) (by omega) h0 h1 hne
   rw [b1] at hbp
   simp only [Option.some.injEq,Prod.mk.injEq] at hbp
   obtain ⟨⟨rfl,rfl⟩,rfl⟩:=hbp
   have hend:zdl S ((i + yj (S.drop i):Nat):Int) = false:=by
    have hl:=hpb.1
    rw [List.length_drop] at hl
    unfold zdl
    rw [decide_eq_false (by omega),show ((i + yj (S.drop i):Nat):Int).toNat = i + yj (S.drop i) from rfl,<- List.getElem?_drop,decide_eq_false hpb.2]
    rfl
   rw [show (((i:Int)).toNat) = i from rfl] at *
   rw [hend,Bool.and_false]
   rfl
 ·have hnb:∀ o:Nat,Lib.indexByte (S.drop i) 61 = (o:Int)->zdm ((S.drop i).take o) = false:=fun o ho=>by
   cases hnb:zdm ((S.drop i).take o) with
   | false=>rfl
   | true=>exact absurd (zlJ ho hnb) h61
  refine ⟨((i:Int),[],t),is && zdl S q,q,(⟨(i:Int),[],[]⟩:Word),?_,b3,?_⟩
  ·by_cases hn:Lib.indexByte (S.drop i) 61 = -1
   ·exact hwd2 hn
   ·obtain ⟨o,ho⟩:=Int.eq_ofNat_of_zero_le (show 0 <= Lib.indexByte (S.drop i) 61 by omega)
    exact hwd o ho (hnb o ho)
  ·have key:((zh (S,(i:Int))).bind fun z=>some ((⟨(i:Int),([]:List UInt8),z.1⟩:Word),z.2)) = some (if is && zdl S q then ((⟨(i:Int),[],t⟩:Word),q) else ((⟨(i:Int),[],[]⟩:Word),-1)):=by
    rw [b5]
    simp only [zug]
    cases (is && zdl S q) <;> rfl
   by_cases hlt:((i + eL (S.drop i):Nat):Int) < (S.length:Int)
   ·rw [decide_eq_true hlt]
    have hlt':i + eL (S.drop i) < S.length:=by omega
    rw [zbx,List.getElem?_eq_getElem hlt']
    simp only [br,cond_true,Option.map_some,zug]
    have h61':¬ S[i + eL (S.drop i)] = 61:=fun h=>h61 (by rw [List.getElem?_drop,List.getElem?_eq_getElem hlt',h])
    rw [show ((S[i + eL (S.drop i)].toNat:Int) == (61:Int)) = false from beq_eq_false_iff_ne.2 (zge (n:=61) (by omega) h61')]
    simp only [cond_false]
    exact key
   ·rw [decide_eq_false hlt]
    simp only [br,cond_false]
    exact key
open Go Go.Eng Go.RowKit Go.X Go.Seq
theorem zlK {S:List UInt8} (hS:S.length <= 1000):∀ (k:Nat) (acc:List Wd) (p:Int),0 <= p->p <= (S.length:Int)->(S.length:Int) - p < (k:Int) ->
  ∃ ws,wsF (qR S) (wdF (qR S)) k p = some ws/\(ws.length:Int) <= (S.length:Int) - p/\(∀ x ∈ ws,(0 <= x.1.1/\x.1.1 <= (S.length:Int))/\x.1.2.1.length <= S.length + 1/\x.1.2.2.length <= S.length + 1) /\
   ((ziM ws = none/\rrF (qR S) (rwF S) k acc p = some (acc++ws.map (fun x=>x.1),-1)) ∨ (∃ w,ziM ws = some w/\0 <= w.1/\w.1 <= (S.length:Int)/\rrF (qR S) (rwF S) k acc p = some ([],w.1)))
 | 0,acc,p,h0,h1,hk=>by omega
 | k + 1,acc,p,h0,h1,hk=>by
  rw [wsF,rrF,Y3]
  by_cases hp:p < (S.length:Int)
  ·rw [if_pos hp,if_pos hp,QN]
   have hlt:p.toNat < S.length:=by omega
   obtain ⟨c,hc⟩:∃ c,S[p.toNat]? = some c:=⟨_,List.getElem?_eq_getElem hlt⟩
   rw [hc]
   simp only [zug]
   by_cases h32:c = 32
   ·rw [if_pos h32,if_neg (by rw [h32]; decide),if_pos h32]
    obtain ⟨ws,a1,a2,a3,a4⟩:=zlK hS k acc (p + 1) (by omega) (by omega) (by omega)
    exact ⟨ws,a1,by omega,a3,a4⟩
   ·rw [if_neg h32]
    by_cases h35:c = 35
    ·rw [if_pos h35,if_pos h35]
     exact ⟨[],rfl,(by simp; omega),fun x hx=>(by cases hx),.inl ⟨rfl,by simp⟩⟩
    ·rw [if_neg h35,if_neg h35,if_neg h32]
     obtain ⟨w,b,q,w',e1,e2,e3⟩:=zrc hS h0 h1
     have o1:=za4 e1
     have o2:=zrP e1
     rw [Y3] at o2
     have hx:(0 <= w.1/\w.1 <= (S.length:Int))/\w.2.1.length <= S.length + 1/\w.2.2.length <= S.length + 1:=⟨by have:=o1.2.2.1; dsimp only at this; omega,o2.1,o2.2⟩
     have hrw:rwF S p = some (if b then (w,q) else ((w'.At,w'.Key,w'.Text),-1)):=by
      unfold rwF
      rw [if_pos hS,e3]
      cases b with
      | true =>
       have:=zmH e1 h0
       simp only [zug,if_true]
       rw [if_pos (.inr this)]
      | false=>rfl
     rw [e1,hrw]
     simp only [zug]
     cases b with
     | true =>
      have hlt2:=zmH e1 h0
      simp only [if_true]
      rw [if_neg (by omega)]
      obtain ⟨ws,a1,a2,a3,a4⟩:=zlK hS k (acc++[w]) q (by omega) e2 (by omega)
      rw [a1]
      refine ⟨(w,true) :: ws,rfl,by simp only [List.length_cons]; omega,fun x hx'=>?_,?_⟩
      ·rcases List.mem_cons.1 hx' with rfl | hx'
       ·exact hx
       ·exact a3 x hx'
      ·rcases a4 with ⟨b1,b2⟩ | ⟨z,b1,b2,b3,b4⟩
       ·exact .inl ⟨b1,by rw [b2]; simp⟩
       ·exact .inr ⟨z,b1,b2,b3,b4⟩
     | false =>
      refine ⟨[(w,false)],rfl,by simp; omega,fun x hx'=>?_,.inr ⟨w,rfl,hx.1.1,hx.1.2,?_⟩⟩
      ·rcases List.mem_cons.1 hx' with rfl | hx'
       ·exact hx
       ·cases hx'
      ·have:w.1 = p:=o1.2.2.1
       rw [this]
       rfl
  ·rw [if_neg hp,if_neg hp]
   exact ⟨[],rfl,(by simp; omega),fun x hx=>(by cases hx),.inl ⟨rfl,by simp⟩⟩
def zsh (l:List Wd):Prop:=l.length <= 1000/\∀ x ∈ l,x.2.1.length <= 1001/\x.2.2.length <= 1001
theorem zrd {l:List UInt8} (hl:l.length <= 1000):∃ ws,znG l = some ws/\(∀ a,zsh (ws.map fun x=>shW a x.1))/\((ziM ws = none/\zfc l = some (ws.map (fun x=>x.1),-1)) ∨ (∃ w,ziM ws = some w/\0 <= w.1/\zfc l = some ([],w.1))):=by
 obtain ⟨ws,a1,a2,a3,a4⟩:=zlK hl (l.length + 1) [] 0 (Int.le_refl _) (by omega) (by omega)
 refine ⟨ws,a1,fun a=>⟨by simp only [List.length_map]; omega,fun x hx=>?_⟩,?_⟩
 ·obtain ⟨y,hy,rfl⟩:=List.mem_map.1 hx
  have:=(a3 y hy).2
  show y.1.2.1.length <= 1001/\y.1.2.2.length <= 1001
  omega
 rcases a4 with ⟨b1,b2⟩ | ⟨z,b1,b2,b3,b4⟩
 ·refine .inl ⟨b1,?_⟩
  unfold zfc
  rw [b2]
  simp only [zug,List.nil_append]
  have hg:∀ x ∈ ws.map (fun x=>x.1),(0 <= x.1/\x.1 <= 1000)/\x.2.1.length <= 1001/\x.2.2.length <= 1001:=fun x hx=>by
   obtain ⟨y,hy,rfl⟩:=List.mem_map.1 hx
   have:=a3 y hy
   omega
  rw [if_pos ⟨(by show (-1:Int) <= -1; decide),(by show (-1:Int) <= 1000; decide),(by simp only [List.length_map]; omega),hg⟩]
 ·refine .inr ⟨z,b1,b2,?_⟩
  unfold zfc
  rw [b4]
  simp only [zug]
  rw [if_pos ⟨by show -1 <= z.1; omega,by show z.1 <= 1000; omega,by simp,fun x hx=>by cases hx⟩]
theorem zm0:∀ (ps:List (List UInt8)) (o:List (Int × List Wd)) (a:Int),(∀ r ∈ o,r.2 ≠ []/\zsh r.2)->∃ r,zbB znG ps o a = some r/\z8 zfc ps o a = some r/\r.1.length <= o.length + ps.length/\(∀ x ∈ r.1,x.2 ≠ []/\zsh x.2)/\(r.2.1 ≠ 0->r.1 = [])
 | [],o,a,ho=>⟨_,rfl,rfl,by simp,ho,fun h=>absurd rfl h⟩
 | p :: ps,o,a,ho=>by
  rw [zbB,z8]
  by_cases hp:1000 < p.length
  ·rw [if_pos hp,if_pos hp]
   exact ⟨_,rfl,rfl,(by simp),fun x hx=>(by cases hx),fun _=>rfl⟩
  ·rw [if_neg hp,if_neg hp]
   obtain ⟨ws,h1,hws,⟨h2,h3⟩ | ⟨w,h2,h3,h4⟩⟩:=zrd (l:=p) (by omega)
   ·rw [h1,h3]
    simp only [zug,h2]
    rw [if_neg (show ¬ (0:Int) <= -1 by decide)]
    have e1:(ws.map (fun x=>x.1) = []) = (ws = []):=propext List.map_eq_nil_iff
    simp only [e1,List.map_map]
    have e2:(fun x:Wd × Bool=>shW a x.1) = shW a ∘ fun x=>x.1:=rfl
    rw [e2]
    obtain ⟨r,r1,r2,r3,r4,r5⟩:=zm0 ps (if ws = [] then o else o++[(a,ws.map (shW a ∘ fun x=>x.1))]) (a + (p.length + 1)) (fun r hr=>by
     split at hr
     ·exact ho r hr
     ·rename_i hne
      rcases List.mem_append.1 hr with hr | hr
      ·exact ho r hr
      ·simp only [List.mem_singleton] at hr
       subst hr
       exact ⟨by simpa using hne,by have:=hws a; rw [e2,<- List.map_map] at this; simpa [List.map_map] using this⟩)
    refine ⟨r,?_,?_,?_,r4,r5⟩
    ·exact r1
    ·exact r2
    split at r3
    ·simp only [List.length_cons]; omega
    ·simp only [List.length_append,List.length_cons,List.length_nil] at r3 ⊢; omega
   ·rw [h1,h4]
    simp only [zug,h2]
    rw [if_pos h3,Int.add_comm]
    exact ⟨_,rfl,rfl,(by simp),fun x hx=>(by cases hx),fun _=>rfl⟩
theorem pieces_len (c:UInt8):∀ l:List UInt8,(yF c l).length <= l.length + 1
 | []=>Nat.le_refl _
 | x :: l=>by
  have:=pieces_len c l
  unfold yF
  split
  ·simp; omega
  ·split
   ·rename_i p ps h
    rw [h] at this
    simp at this ⊢; omega
   ·simp
def zrS (l:List Word):Prop:=l.length <= 1000/\∀ x ∈ l,x.Key.length <= 1001/\x.Text.length <= 1001
theorem zre (x:List UInt8):∃ r,Y9 x = some r/\yp x = some r/\r.1.length <= x.length + 1/\(∀ y ∈ r.1,y.Words ≠ []/\zrS y.Words)/\(r.2.Err ≠ 0->r.1 = []):=by
 unfold Y9 yp
 by_cases hx:20000 < x.length
 ·rw [if_pos hx,if_pos hx]
  exact ⟨_,rfl,rfl,(by simp),fun y hy=>(by cases hy),fun _=>rfl⟩
 ·rw [if_neg hx,if_neg hx]
  obtain ⟨r,r1,r2,r3,r4,r5⟩:=zm0 (yF 10 x) [] 0 (fun r hr=>by cases hr)
  rw [r1,r2]
  refine ⟨_,rfl,rfl,?_,fun y hy=>?_,fun h=>?_⟩
  ·have:=pieces_len 10 x
   simp only [List.length_map,List.length_nil] at r3 ⊢; omega
  ·obtain ⟨z,hz,rfl⟩:=List.mem_map.1 hy
   have:=r4 z hz
   obtain ⟨t1,t2,t3⟩:=this
   unfold zcu
   refine ⟨by simpa using t1,by simpa using t2,fun x hx=>?_⟩
   obtain ⟨v,hv,rfl⟩:=List.mem_map.1 hx
   exact t3 v hv
  ·have h':r.2.1 ≠ 0:=h
   show r.1.map zcu = []
   rw [r5 h']; rfl
end Go.Proofs.YtjcbpfhlgebgdaaGreatDoor
