import Derived.Test.YtjcbpfhlgebgdaaDoorP3l
set_option linter.unusedSimpArgs false
set_option linter.unusedVariables false
namespace Go.Proofs.YtjcbpfhlgebgdaaDoor
open Go Go.Eng Go.RowKit Go.X Go.Seq
theorem qF_tot {S:List UInt8} (hS:S.length ≤ 1000000):∀ (k:Nat) (acc:List UInt8) (p:Int),0 ≤ p→p ≤ (S.length:Int)→(S.length:Int) - p < (k:Int) →
  ∃ r q,qF (S.length:Int) (nxF S) (esF S) k acc p = some (r,q)∧q ≤ (S.length:Int)
 | 0,acc,p,h0,h1,hk=>by omega
 | k + 1,acc,p,h0,h1,hk=>by
  unfold qF
  by_cases hp:p < (S.length:Int)
  ·rw [if_pos hp]
   obtain ⟨c,hc,g0,g1⟩:=idxS_in h0 hp
   have hn:nxF S p = some (c,p + 1):=by unfold nxF; rw [nxF_in hS h0 hp hc]; rfl
   rw [hn]
   simp only [Option.bind_some]
   by_cases e34:c = 34
   ·rw [if_pos e34]; exact ⟨_,_,rfl,by omega⟩
   ·rw [if_neg e34]
    by_cases e92:c = 92
    ·rw [if_pos e92]
     subst e92
     obtain ⟨d,b,q1,he,_⟩:=piece_esc hS h0 hp hc
     have hes:esF S (p + 1) = some ((d,b),q1):=by unfold esF; rw [if_pos (by omega),he]; rfl
     obtain ⟨_,hq1,hq2,_,_⟩:=esc_eq he (by omega)
     dsimp only at hq1 hq2
     rw [hes]
     simp only [Option.bind_some]
     cases b with
     | true=>rw [if_pos rfl]; exact qF_tot hS k _ q1 (by omega) hq2 (by omega)
     | false=>rw [if_neg (by simp)]; exact ⟨_,_,rfl,hq2⟩
    ·rw [if_neg e92]
     by_cases hr:32 ≤ c∧c < 127
     ·rw [if_pos hr]; exact qF_tot hS k _ (p + 1) (by omega) (by omega) (by omega)
     ·rw [if_neg hr]; exact ⟨_,_,rfl,by omega⟩
  ·rw [if_neg hp]; exact ⟨_,_,rfl,h1⟩
theorem bsOf_list (S:List UInt8):(bsOf S).data.toList = S:=by simp [bsOf]
theorem bsOf_size (S:List UInt8):(bsOf S).size = S.length:=List.size_toArray
theorem bsOf_get (S:List UInt8) (i:Nat):(bsOf S).data[i]? = S[i]?:=by simp [bsOf]
theorem qdF_tot {S:List UInt8} (hS:S.length ≤ 1000000) {p:Int} (h0:0 ≤ p) (h1:p ≤ (S.length:Int)):∃ a ok q,qdF (bsOf S) p = some ((a,ok),q)∧q ≤ (S.length:Int):=by
 obtain ⟨⟨a,ok⟩,q,h,hq⟩:=qF_tot hS (S.length + 1) [] p h0 h1 (by omega)
 refine ⟨a,ok,q,?_,hq⟩
 unfold qdF words_scanner_quoted
 rw [bsOf_list]
 dsimp only
 rw [if_pos ⟨hS,h0,h1⟩,h]
 rfl
theorem idxS_nat (S:List UInt8) (i:Nat):idxS S (i:Int) = (S[i]?).map fun b=>(b.toNat:Int):=by
 unfold idxS idx; rw [if_pos (by omega)]; rfl
theorem idxS_iff {S:List UInt8} {q:Int} (hq:0 ≤ q) {c:UInt8}:S[q.toNat]? = some c ↔ idxS S q = some (c.toNat:Int):=by
 unfold idxS idx
 rw [if_pos hq]
 cases S[q.toNat]? with
 | none=>simp
 | some x=>simp only [Option.map_some,Option.some.injEq]; exact ⟨fun e=>by rw [e],fun e=>UInt8.toNat_inj.1 (by omega)⟩
def endB (S:List UInt8) (q:Int):Bool:=decide ((S.length:Int) ≤ q) || decide (S[q.toNat]? = some 32)
theorem bd_plain {S:List UInt8} (hS:S.length ≤ 1000000) {p:Int} (h0:0 ≤ p) (h1:p ≤ (S.length:Int)) (hc:idxS S p ≠ some 34) :
  bdF (bsOf S) p = some (((S.drop p.toNat).take (scanL (S.drop p.toNat)),bareB ((S.drop p.toNat).take (scanL (S.drop p.toNat)))),((p.toNat + scanL (S.drop p.toNat):Nat):Int)):=by
 unfold bdF bodyF
 rw [bsOf_size,if_pos ⟨h0,h1⟩,bsOf_get,if_neg (fun h=>hc ((idxS_iff h0).1 h)),bsOf_list]
 rw [bareF_eq (by simp only [List.length_take,List.length_drop]; omega)]
 simp only [Option.map_some,Option.some.injEq,Prod.mk.injEq,true_and]
 omega
theorem body_eq {S:List UInt8} (hS:S.length ≤ 1000000) {p:Int} (h0:0 ≤ p) (h1:p ≤ (S.length:Int)) :
  ∃ t is q,bdF (bsOf S) p = some ((t,is),q)∧p ≤ q∧q ≤ (S.length:Int)∧(is = true→p < q)∧packhorseref03_body (S,p) = some (if is && endB S q then (t,q) else ([],-1)):=by
 have hb:∀ b,bdF (bsOf S) p = some b→p ≤ b.2∧(b.1.2 = true→p < b.2):=fun b h=>by
  obtain ⟨⟨t,is⟩,q⟩:=b
  have:=bdF_ge h
  exact ⟨this.2.1,this.2.2.1⟩
 by_cases hc:idxS S p = some 34
 ·have hp:p < (S.length:Int):=by
   unfold idxS idx at hc
   rw [if_pos h0] at hc
   by_cases hh:p < (S.length:Int)
   ·exact hh
   ·rw [List.getElem?_eq_none (by omega)] at hc; cases hc
  obtain ⟨a,ok,q,hq,hq1⟩:=qdF_tot hS (p:=p + 1) (by omega) (by omega)
  have hbd:bdF (bsOf S) p = some ((a,ok),q):=by
   unfold bdF bodyF
   rw [bsOf_size,if_pos ⟨h0,h1⟩,bsOf_get,if_pos ((idxS_iff h0).2 hc),hq]
  have h2:=hb _ hbd
  refine ⟨a,ok,q,hbd,h2.1,hq1,h2.2,?_⟩
  have hq0:0 ≤ q:=Int.le_trans h0 h2.1
  rw [body_quoted hS h0 hp hc hq hq1]
  unfold endB
  have:decide (idxS S q = some 32) = decide (S[q.toNat]? = some 32):=decide_eq_decide.2 (idxS_iff hq0 (c:=32)).symm
  rw [this]
 ·obtain ⟨i,rfl⟩:=Int.eq_ofNat_of_zero_le h0
  have hbp:=body_plain hS i (by omega) hc
  have hsc:=(scan_blank (S.drop i)).1
  have hbl:=blL_le (S.drop i)
  rw [List.length_drop] at hbl
  have hbd:bdF (bsOf S) (i:Int) = some (((S.drop i).take (scanL (S.drop i)),bareB ((S.drop i).take (scanL (S.drop i)))),((i + scanL (S.drop i):Nat):Int)):=by
   exact bd_plain hS h0 h1 hc
  have h2:=hb _ hbd
  refine ⟨_,_,_,hbd,h2.1,by omega,h2.2,?_⟩
  rw [hbp]
  unfold endB
  rw [show ((i + scanL (S.drop i):Nat):Int).toNat = i + scanL (S.drop i) from rfl]
  rw [List.getElem?_drop]
  have:decide (S[i + scanL (S.drop i)]? = none) = decide ((S.length:Int) ≤ ((i + scanL (S.drop i):Nat):Int)):=decide_eq_decide.2 (by rw [List.getElem?_eq_none_iff]; omega)
  rw [this]
open Go Go.Eng Go.RowKit Go.X Go.Seq
theorem tw_at (P:UInt8→Bool):∀ (l:List UInt8),(∀ j,j < (l.takeWhile P).length→∃ c,l[j]? = some c∧P c = true)∧(∀ c,l[(l.takeWhile P).length]? = some c→P c = false)
 | []=>⟨fun j h=>by simp at h,fun c h=>by simp at h⟩
 | x :: l=>by
  rw [List.takeWhile_cons]
  cases hx:P x with
  | false=>exact ⟨fun j h=>by simp at h,fun c h=>by simp at h; rw [← h]; exact hx⟩
  | true =>
   obtain ⟨h1,h2⟩:=tw_at P l
   refine ⟨fun j h=>?_,fun c h=>h2 c (by simpa using h)⟩
   cases j with
   | zero=>exact ⟨x,rfl,hx⟩
   | succ j=>exact h1 j (by simpa using h)
def keyP (c:UInt8):Bool:=!decide (c = 32) && !decide (c = 61) && !decide (c = 34)
def eL (l:List UInt8):Nat:=(l.takeWhile keyP).length
theorem eL_le (l:List UInt8):eL l ≤ l.length:=(List.takeWhile_sublist _).length_le
theorem key_loop {S:List UInt8} (hS:S.length ≤ 1000000) (F:Int→Option (Step Int Int))
  (hF:∀ i:Nat,i < S.length→F (i:Int) = some (if keyP (S[i]?.getD 0) then .next ((i:Int) + 1) else .done (i:Int))) (hE:F (S.length:Int) = some (.done (S.length:Int))) :
  ∀ (k i:Nat),i + k = S.length→iter F (i:Int) = some ((i + eL (S.drop i):Nat):Int)
 | 0,i,hi=>by
  have:i = S.length:=by omega
  subst this
  rw [iter_eq,hE,List.drop_eq_nil_of_le (by omega)]
  rfl
 | k + 1,i,hi=>by
  have hlt:i < S.length:=by omega
  rw [iter_eq,hF i hlt,List.getElem?_eq_getElem hlt,Option.getD_some,List.drop_eq_getElem_cons hlt]
  unfold eL
  rw [List.takeWhile_cons]
  cases hx:keyP S[i] with
  | false=>simp
  | true =>
   simp only [if_true]
   have:=key_loop hS F hF hE k (i + 1) (by omega)
   rw [show (i:Int) + 1 = ((i + 1:Nat):Int) by omega,this]
   simp only [List.length_cons]
   unfold eL
   congr 1
   omega
theorem eq_first {l:List UInt8} (h:l[eL l]? = some 61):Lib.indexByte l 61 = (eL l:Int):=by
 have hge:=Lib.indexByte_ge l 61
 by_cases hn:Lib.indexByte l 61 = -1
 ·exact absurd h (Lib.indexByte_none hn _)
 ·obtain ⟨o,ho⟩:=Int.eq_ofNat_of_zero_le (show 0 ≤ Lib.indexByte l 61 by omega)
  obtain ⟨h1,h2⟩:=Lib.indexByte_some ho
  have h3:¬ eL l < o:=fun hlt=>h2 _ hlt h
  have h4:¬ o < eL l:=fun hlt=>by
   obtain ⟨c,hc,hk⟩:=(tw_at keyP l).1 o hlt
   rw [h1] at hc
   cases hc
   exact absurd hk (by decide)
  rw [ho]
  have:o = eL l:=by omega
  rw [this]
theorem plain_before {l:List UInt8} (h:l[eL l]? = some 61):scanL l < l.length∧l[scanL l]? ≠ some 32:=by
 have hel:eL l < l.length:=(List.getElem?_eq_some_iff.1 h).1
 have hle:scanL l ≤ eL l:=by
  rcases Nat.lt_or_ge (eL l) (scanL l) with hlt | hge
  ·obtain ⟨c,hc,hk⟩:=(tw_at (fun c=>plainI (c.toNat:Int)) l).1 _ hlt
   rw [h] at hc
   cases hc
   exact absurd hk (by decide)
  ·exact hge
 refine ⟨by omega,fun h32=>?_⟩
 rcases Nat.lt_or_ge (scanL l) (eL l) with hlt | hge
 ·obtain ⟨c,hc,hk⟩:=(tw_at keyP l).1 _ hlt
  rw [h32] at hc
  cases hc
  exact absurd hk (by decide)
 ·have:scanL l = eL l:=by omega
  rw [this,h] at h32
  exact absurd h32 (by decide)
open Go Go.Eng Go.RowKit Go.X Go.Seq
def lowB (c:UInt8):Bool:=decide (97 ≤ c.toNat) && decide (c.toNat ≤ 122)
def okC (c:UInt8):Bool:=decide (c.toNat = 45) || (decide (48 ≤ c.toNat) && decide (c.toNat ≤ 57))
def nmA:Nat→List UInt8→Bool
 | _,[]=>true
 | i,c :: l=>(lowB c || (decide (i ≠ 0) && okC c)) && nmA (i + 1) l
def nameB (l:List UInt8):Bool:=nmA 0 l && (decide (1 ≤ l.length) && decide (l.length ≤ 20))
theorem nmA_key:∀ {i:Nat} {l:List UInt8},nmA i l = true→∀ c ∈ l,keyP c = true
 | i,[],_,c,h=>by cases h
 | i,x :: l,h,c,hc=>by
  unfold nmA at h
  rw [Bool.and_eq_true] at h
  rcases List.mem_cons.1 hc with rfl | hc
  ·have h1:=h.1
   unfold lowB okC at h1
   unfold keyP
   have a1:c ≠ 32:=by rintro rfl; exact absurd h1 (by simp)
   have a2:c ≠ 61:=by rintro rfl; exact absurd h1 (by simp)
   have a3:c ≠ 34:=by rintro rfl; exact absurd h1 (by simp)
   rw [decide_eq_false a1,decide_eq_false a2,decide_eq_false a3]; rfl
  ·exact nmA_key h.2 c hc
theorem name_loop {s:List UInt8} (F:Int→Option (Step Int (Bool ⊕ Unit)))
  (hF:∀ (i:Nat) (h:i < s.length),F (i:Int) = some (if lowB s[i] || (decide (i ≠ 0) && okC s[i]) then .next ((i:Int) + 1) else .done (.inl false))) (hE:F (s.length:Int) = some (.done (.inr ()))) :
  ∀ (k i:Nat),i + k = s.length→iter F (i:Int) = some (if nmA i (s.drop i) then .inr () else .inl false)
 | 0,i,hi=>by
  have:i = s.length:=by omega
  subst this
  rw [iter_eq,hE,List.drop_eq_nil_of_le (Nat.le_refl _)]
  rfl
 | k + 1,i,hi=>by
  have hlt:i < s.length:=by omega
  rw [iter_eq,hF i hlt,List.drop_eq_getElem_cons hlt]
  unfold nmA
  cases hx:(lowB s[i] || (decide (i ≠ 0) && okC s[i])) with
  | false=>simp
  | true =>
   have:=name_loop F hF hE k (i + 1) (by omega)
   simp only [if_true,Bool.true_and]
   rw [show (i:Int) + 1 = ((i + 1:Nat):Int) by omega,this]
theorem name_step {α:Type} (i:Nat) (c:UInt8) (x y:α) :
  (bif decide ((97:Int) ≤ (c.toNat:Int)) then
   bif !decide ((c.toNat:Int) ≤ (122:Int)) then
    bif (i:Int) == (0:Int) then some x
    else bif (c.toNat:Int) != (45:Int) then bif decide ((c.toNat:Int) < (48:Int)) then some x else bif decide ((57:Int) < (c.toNat:Int)) then some x else some y else some y
   else some y
  else
   bif (i:Int) == (0:Int) then some x
   else bif (c.toNat:Int) != (45:Int) then bif decide ((c.toNat:Int) < (48:Int)) then some x else bif decide ((57:Int) < (c.toNat:Int)) then some x else some y else some y) =
  some (if lowB c || (decide (i ≠ 0) && okC c) then y else x):=by
 unfold lowB okC
 have e0:((i:Int) == (0:Int)) = decide (i = 0):=by
  by_cases h:i = 0
  ·subst h; rfl
  ·rw [decide_eq_false h]; exact beq_eq_false_iff_ne.2 (by omega)
 have e1:((c.toNat:Int) != (45:Int)) = !decide (c.toNat = 45):=by
  by_cases h:c.toNat = 45
  ·rw [h]; rfl
  ·rw [decide_eq_false h]; exact bne_iff_ne.2 (by omega)
 have e2:decide ((97:Int) ≤ (c.toNat:Int)) = decide (97 ≤ c.toNat):=decide_eq_decide.2 (by omega)
 have e3:decide ((c.toNat:Int) ≤ (122:Int)) = decide (c.toNat ≤ 122):=decide_eq_decide.2 (by omega)
 have e4:decide ((c.toNat:Int) < (48:Int)) = !decide (48 ≤ c.toNat):=by rw [← decide_not]; exact decide_eq_decide.2 (by omega)
 have e5:decide ((57:Int) < (c.toNat:Int)) = !decide (c.toNat ≤ 57):=by rw [← decide_not]; exact decide_eq_decide.2 (by omega)
 rw [e0,e1,e2,e3,e4,e5,show decide (i ≠ 0) = !decide (i = 0) from decide_not]
 cases decide (97 ≤ c.toNat) <;> cases decide (c.toNat ≤ 122) <;> cases decide (i = 0) <;> cases decide (c.toNat = 45) <;> cases decide (48 ≤ c.toNat) <;> cases decide (c.toNat ≤ 57) <;> rfl
theorem name_eq {l:List UInt8} (hl:l.length ≤ 1000000):words_Name l = some (nameB l):=by
 unfold words_Name
 have hlen:(bytesI l).length = l.length:=by simp [bytesI]
 rw [hlen]
 generalize hG:(fun x_2:Int=>br (decide (x_2 < (l.length:Int))) _ _) = F
 have h0:=name_loop (s:=l) F (fun i hi=>by
  subst hG
  have hidx:idx (bytesI l) (i:Int) = some ((l[i].toNat:Int)):=by
   rw [idxS_bytes,idxS_nat,List.getElem?_eq_getElem hi]; rfl
  have hadd:addI .i64 (i:Int) (1:Int) = some ((i:Int) + 1):=addI_ok (by omega)
  simp only [hidx,decide_eq_true (show (i:Int) < (l.length:Int) by omega),br,cond_true,Option.bind_some,hadd]
  exact name_step i l[i] _ _) (by
  subst hG
  dsimp only
  rw [decide_eq_false (by omega)]; rfl) l.length 0 (by omega)
 rw [List.drop_zero] at h0
 simp only [Int.natCast_zero] at h0
 rw [h0]
 unfold nameB
 cases hn:nmA 0 l with
 | false=>rfl
 | true =>
  simp only [if_true,Option.bind_some,Bool.true_and]
  have e1:decide ((1:Int) ≤ (l.length:Int)) = decide (1 ≤ l.length):=decide_eq_decide.2 (by omega)
  have e2:decide ((l.length:Int) ≤ (20:Int)) = decide (l.length ≤ 20):=decide_eq_decide.2 (by omega)
  rw [e1,e2]
  cases decide (1 ≤ l.length) <;> cases decide (l.length ≤ 20) <;> rfl
theorem name_first {l:List UInt8} {o:Nat} (ho:Lib.indexByte l 61 = (o:Int)) (hn:nameB (l.take o) = true):l[eL l]? = some 61:=by
 obtain ⟨h1,_⟩:=Lib.indexByte_some ho
 unfold nameB at hn
 rw [Bool.and_eq_true] at hn
 have hk:=nmA_key hn.1
 have hol:o < l.length:=(List.getElem?_eq_some_iff.1 h1).1
 rcases Nat.lt_trichotomy (eL l) o with hlt | heq | hgt
 ·have hel:eL l < l.length:=by omega
  have hc:=List.getElem?_eq_getElem hel
  have hf:=(tw_at keyP l).2 _ hc
  have hm:l[eL l] ∈ l.take o:=List.mem_of_getElem? (i:=eL l) (by rw [List.getElem?_take_of_lt hlt]; exact hc)
  rw [hk _ hm] at hf
  cases hf
 ·rw [heq]; exact h1
 ·obtain ⟨c,hc,hf⟩:=(tw_at keyP l).1 o hgt
  rw [h1] at hc
  cases hc
  exact absurd hf (by decide)
theorem nameF_eq {l:List UInt8} (hl:l.length ≤ 1000000):nameF l = some (nameB l):=by
 unfold nameF; rw [if_pos hl,name_eq hl]
theorem slc_nat {S:List UInt8} {i j:Nat} (hij:i ≤ j) (hj:j ≤ S.length):slc S (i:Int) (j:Int) = some ((S.drop i).take (j - i)):=by
 unfold slc
 rw [if_pos ⟨by omega,by omega,by omega⟩]
 congr 1
 rw [show ((j:Int)).toNat = j from rfl,show ((i:Int)).toNat = i from rfl,List.drop_take]
theorem word_eq {S:List UInt8} (hS:S.length ≤ 1000) {p:Int} (h0:0 ≤ p) (h1:p ≤ (S.length:Int)) :
  ∃ w b q w',wdF (bsOf S) p = some ((w,b),q)∧q ≤ (S.length:Int)∧packhorseref03_word (S,p) = some (if b then ((⟨w.1,w.2.1,w.2.2⟩:Word),q) else (w',-1)):=by
 obtain ⟨i,rfl⟩:=Int.eq_ofNat_of_zero_le h0
 have hit:=key_loop (S:=S) (by omega) (fun end_3=>br (decide (end_3 < (S.length:Int))) ((idxS S end_3).bind fun x_4=>br (x_4 != (32:Int)) ((idxS S end_3).bind fun x_5=>br (x_5 != (61:Int)) ((idxS S end_3).bind fun x_6=>br (x_6 != (34:Int)) ((addI .i64 end_3 (1:Int)).bind fun x_7=>some (.next x_7)) (some (.done end_3))) (some (.done end_3))) (some (.done end_3))) (some (.done end_3)))
  (fun j hj=>by
   simp only [decide_eq_true (show (j:Int) < (S.length:Int) by omega),idxS_nat,List.getElem?_eq_getElem hj,Option.map_some,Option.bind_some,br,cond_true,addI_ok (a:=(j:Int)) (b:=1) (by omega),Option.getD_some,keyP]
   have e:∀ n:Nat,n < 256→((S[j].toNat:Int) != (n:Int)) = !decide (S[j] = UInt8.ofNat n):=fun n hn=>by
    by_cases h:S[j] = UInt8.ofNat n
    ·rw [decide_eq_true h,h,UInt8.toNat_ofNat',Nat.mod_eq_of_lt hn]; simp
    ·rw [decide_eq_false h]; exact bne_iff_ne.2 (u8_ne hn h)
   rw [show ((S[j].toNat:Int) != (32:Int)) = !decide (S[j] = 32) from e 32 (by omega),show ((S[j].toNat:Int) != (61:Int)) = !decide (S[j] = 61) from e 61 (by omega),show ((S[j].toNat:Int) != (34:Int)) = !decide (S[j] = 34) from e 34 (by omega)]
   cases decide (S[j] = 32) <;> cases decide (S[j] = 61) <;> cases decide (S[j] = 34) <;> rfl)
  (by simp only [decide_eq_false (show ¬ (S.length:Int) < (S.length:Int) by omega),br,cond_false]) (S.length - i) i (by omega)
 have hel:=eL_le (S.drop i)
 rw [List.length_drop] at hel
 have hil:i ≤ S.length:=by omega
 have hword:∀ (q:Int) (b:Bool) (r:(List UInt8 × Bool) × Int),(if b && (decide ((S.length:Int) ≤ q) || decide ((bsOf S).data[q.toNat]? = some 32)) then (([]:List UInt8),q) else ([],-1)) = if b && endB S q then ([],q) else ([],-1):=fun q b r=>by rw [bsOf_get]; rfl
 have gw:(packhorseref03_word (S,(i:Int)) = (br (decide (((i + eL (S.drop i):Nat):Int) < (S.length:Int)))
  ((idxS S ((i + eL (S.drop i):Nat):Int)).bind fun x_9 =>
  br (x_9 == (61:Int))
   ((slc S (i:Int) ((i + eL (S.drop i):Nat):Int)).bind fun x_10 =>
   (packhorseref03_Name x_10).bind fun x_11 =>
   br (!x_11)
    (some ((⟨(i:Int),([]:List UInt8),([]:List UInt8)⟩:Word),(-1:Int)))
    ((slc S (i:Int) ((i + eL (S.drop i):Nat):Int)).bind fun x_12 =>
    (addI .i64 ((i + eL (S.drop i):Nat):Int) (1:Int)).bind fun x_13 =>
    (packhorseref03_body (S,x_13)).bind fun z =>
    some ((⟨(i:Int),x_12,z.1⟩:Word),z.2)))
   ((packhorseref03_body (S,(i:Int))).bind fun z =>
   some ((⟨(i:Int),([]:List UInt8),z.1⟩:Word),z.2)))
  ((packhorseref03_body (S,(i:Int))).bind fun z =>
  some ((⟨(i:Int),([]:List UInt8),z.1⟩:Word),z.2)))):=by
  unfold packhorseref03_word
  dsimp only
  rw [hit]
  rfl
 rw [gw]
 clear gw hit
 obtain ⟨t,is,q,b1,b2,b3,b4,b5⟩:=body_eq (S:=S) (by omega) h0 h1
 have hwd:∀ (o:Nat),Lib.indexByte (S.drop i) 61 = (o:Int)→nameB ((S.drop i).take o) = false→wdF (bsOf S) (i:Int) = some ((((i:Int),[],t),is && endB S q),q):=fun o ho hn=>by
  unfold wdF wordF
  rw [bsOf_size,if_pos ⟨h0,h1⟩,bsOf_list,show ((i:Int)).toNat = i from rfl,ho,if_pos (by omega),show ((o:Int)).toNat = o from rfl,nameF_eq (by simp only [List.length_take,List.length_drop]; omega),hn]
  simp only [Option.bind_some,b1,bsOf_get]
  rfl
 have hwd2:Lib.indexByte (S.drop i) 61 = -1→wdF (bsOf S) (i:Int) = some ((((i:Int),[],t),is && endB S q),q):=fun ho=>by
  unfold wdF wordF
  rw [bsOf_size,if_pos ⟨h0,h1⟩,bsOf_list,show ((i:Int)).toNat = i from rfl,ho,if_neg (by decide)]
  simp only [Option.bind_some,b1,bsOf_get]
  rfl
 have hge:=Lib.indexByte_ge (S.drop i) 61
 by_cases h61:(S.drop i)[eL (S.drop i)]? = some 61
 ·have hix:=eq_first h61
  have hel2:eL (S.drop i) < (S.drop i).length:=(List.getElem?_eq_some_iff.1 h61).1
  rw [List.length_drop] at hel2
  have hidx:idxS S ((i + eL (S.drop i):Nat):Int) = some 61:=by
   rw [idxS_nat,← List.getElem?_drop,h61]; rfl
  rw [hidx,decide_eq_true (by omega),slc_nat (by omega) (by omega),Nat.add_sub_cancel_left]
  simp only [br,cond_true,Option.bind_some,refName_eq,name_eq (l:=(S.drop i).take (eL (S.drop i))) (by simp only [List.length_take,List.length_drop]; omega)]
  rw [show ((61:Int) == (61:Int)) = true from rfl]
  simp only [cond_true]
  cases hnb:nameB ((S.drop i).take (eL (S.drop i))) with
  | true =>
   simp only [Bool.not_true,cond_false]
   rw [addI_ok (by omega)]
   obtain ⟨t2,is2,q2,c1,c2,c3,c4,c5⟩:=body_eq (S:=S) (by omega) (p:=((i + eL (S.drop i):Nat):Int) + 1) (by omega) (by omega)
   refine ⟨((i:Int),(S.drop i).take (eL (S.drop i)),t2),is2 && endB S q2,q2,(⟨(i:Int),(S.drop i).take (eL (S.drop i)),[]⟩:Word),?_,c3,?_⟩
   ·unfold wdF wordF
    rw [bsOf_size,if_pos ⟨h0,h1⟩,bsOf_list,show ((i:Int)).toNat = i from rfl,hix,if_pos (by omega),show ((eL (S.drop i):Nat):Int).toNat = eL (S.drop i) from rfl,nameF_eq (by simp only [List.length_take,List.length_drop]; omega),hnb]
    simp only [Option.bind_some,if_true]
    rw [show (i:Int) + ((eL (S.drop i):Int) + 1) = ((i + eL (S.drop i):Nat):Int) + 1 by omega,c1]
    simp only [Option.bind_some,bsOf_get]
    rfl
   ·simp only [Option.bind_some]
    rw [c5]
    simp only [Option.bind_some]
    cases (is2 && endB S q2) <;> rfl
  | false =>
   simp only [Bool.not_false,cond_true]
   refine ⟨((i:Int),[],t),is && endB S q,q,(⟨(i:Int),[],[]⟩:Word),hwd _ hix hnb,b3,?_⟩
   have hpb:=plain_before h61
   have hne:idxS S (i:Int) ≠ some 34:=fun hc=>by
    have hc':=(idxS_iff h0 (c:=34)).2 hc
    rw [show ((i:Int)).toNat = i from rfl] at hc'
    have h3:(S.drop i)[0]? = some 34:=by rw [List.getElem?_drop]; exact hc'
    have h4:eL (S.drop i) = 0:=by
     rcases Nat.eq_zero_or_pos (eL (S.drop i)) with h | h
     ·exact h
     ·obtain ⟨c,hc,hk⟩:=(tw_at keyP (S.drop i)).1 0 h
      rw [h3] at hc
      cases hc
      exact absurd hk (by decide)
    rw [h4,h3] at h61
    exact absurd h61 (by decide)
   have hbp:=bd_plain (S:=S) (by omega) h0 h1 hne
   rw [b1] at hbp
   simp only [Option.some.injEq,Prod.mk.injEq] at hbp
   obtain ⟨⟨rfl,rfl⟩,rfl⟩:=hbp
   have hend:endB S ((i + scanL (S.drop i):Nat):Int) = false:=by
    have hl:=hpb.1
    rw [List.length_drop] at hl
    unfold endB
    rw [decide_eq_false (by omega),show ((i + scanL (S.drop i):Nat):Int).toNat = i + scanL (S.drop i) from rfl,← List.getElem?_drop,decide_eq_false hpb.2]
    rfl
   rw [show (((i:Int)).toNat) = i from rfl] at *
   rw [hend,Bool.and_false]
   rfl
 ·have hnb:∀ o:Nat,Lib.indexByte (S.drop i) 61 = (o:Int)→nameB ((S.drop i).take o) = false:=fun o ho=>by
   cases hnb:nameB ((S.drop i).take o) with
   | false=>rfl
   | true=>exact absurd (name_first ho hnb) h61
  refine ⟨((i:Int),[],t),is && endB S q,q,(⟨(i:Int),[],[]⟩:Word),?_,b3,?_⟩
  ·by_cases hn:Lib.indexByte (S.drop i) 61 = -1
   ·exact hwd2 hn
   ·obtain ⟨o,ho⟩:=Int.eq_ofNat_of_zero_le (show 0 ≤ Lib.indexByte (S.drop i) 61 by omega)
    exact hwd o ho (hnb o ho)
  ·have key:((packhorseref03_body (S,(i:Int))).bind fun z=>some ((⟨(i:Int),([]:List UInt8),z.1⟩:Word),z.2)) = some (if is && endB S q then ((⟨(i:Int),[],t⟩:Word),q) else ((⟨(i:Int),[],[]⟩:Word),-1)):=by
    rw [b5]
    simp only [Option.bind_some]
    cases (is && endB S q) <;> rfl
   by_cases hlt:((i + eL (S.drop i):Nat):Int) < (S.length:Int)
   ·rw [decide_eq_true hlt]
    have hlt':i + eL (S.drop i) < S.length:=by omega
    rw [idxS_nat,List.getElem?_eq_getElem hlt']
    simp only [br,cond_true,Option.map_some,Option.bind_some]
    have h61':¬ S[i + eL (S.drop i)] = 61:=fun h=>h61 (by rw [List.getElem?_drop,List.getElem?_eq_getElem hlt',h])
    rw [show ((S[i + eL (S.drop i)].toNat:Int) == (61:Int)) = false from beq_eq_false_iff_ne.2 (u8_ne (n:=61) (by omega) h61')]
    simp only [cond_false]
    exact key
   ·rw [decide_eq_false hlt]
    simp only [br,cond_false]
    exact key
open Go Go.Eng Go.RowKit Go.X Go.Seq
theorem row_eq {S:List UInt8} (hS:S.length ≤ 1000):∀ (k:Nat) (acc:List Wd) (p:Int),0 ≤ p→p ≤ (S.length:Int)→(S.length:Int) - p < (k:Int) →
  ∃ ws,wsF (bsOf S) (wdF (bsOf S)) k p = some ws∧(ws.length:Int) ≤ (S.length:Int) - p∧(∀ x ∈ ws,(0 ≤ x.1.1∧x.1.1 ≤ (S.length:Int))∧x.1.2.1.length ≤ S.length + 1∧x.1.2.2.length ≤ S.length + 1) ∧
   ((badF ws = none∧rrF (bsOf S) (rwF S) k acc p = some (acc++ws.map (fun x=>x.1),-1)) ∨ (∃ w,badF ws = some w∧0 ≤ w.1∧w.1 ≤ (S.length:Int)∧rrF (bsOf S) (rwF S) k acc p = some ([],w.1)))
 | 0,acc,p,h0,h1,hk=>by omega
 | k + 1,acc,p,h0,h1,hk=>by
  rw [wsF,rrF,bsOf_size]
  by_cases hp:p < (S.length:Int)
  ·rw [if_pos hp,if_pos hp,bsOf_get]
   have hlt:p.toNat < S.length:=by omega
   obtain ⟨c,hc⟩:∃ c,S[p.toNat]? = some c:=⟨_,List.getElem?_eq_getElem hlt⟩
   rw [hc]
   simp only [Option.bind_some]
   by_cases h32:c = 32
   ·rw [if_pos h32,if_neg (by rw [h32]; decide),if_pos h32]
    obtain ⟨ws,a1,a2,a3,a4⟩:=row_eq hS k acc (p + 1) (by omega) (by omega) (by omega)
    exact ⟨ws,a1,by omega,a3,a4⟩
   ·rw [if_neg h32]
    by_cases h35:c = 35
    ·rw [if_pos h35,if_pos h35]
     exact ⟨[],rfl,(by simp; omega),fun x hx=>(by cases hx),.inl ⟨rfl,by simp⟩⟩
    ·rw [if_neg h35,if_neg h35,if_neg h32]
     obtain ⟨w,b,q,w',e1,e2,e3⟩:=word_eq hS h0 h1
     have o1:=wordF_open e1
     have o2:=wdF_len e1
     rw [bsOf_size] at o2
     have hx:(0 ≤ w.1∧w.1 ≤ (S.length:Int))∧w.2.1.length ≤ S.length + 1∧w.2.2.length ≤ S.length + 1:=⟨by have:=o1.2.2.1; dsimp only at this; omega,o2.1,o2.2⟩
     have hrw:rwF S p = some (if b then (w,q) else ((w'.At,w'.Key,w'.Text),-1)):=by
      unfold rwF
      rw [if_pos hS,e3]
      cases b with
      | true =>
       have:=wdF_lt e1 h0
       simp only [Option.bind_some,if_true]
       rw [if_pos (.inr this)]
      | false=>rfl
     rw [e1,hrw]
     simp only [Option.bind_some]
     cases b with
     | true =>
      have hlt2:=wdF_lt e1 h0
      simp only [if_true]
      rw [if_neg (by omega)]
      obtain ⟨ws,a1,a2,a3,a4⟩:=row_eq hS k (acc++[w]) q (by omega) e2 (by omega)
      rw [a1]
      refine ⟨(w,true) :: ws,rfl,by simp only [List.length_cons]; omega,fun x hx'=>?_,?_⟩
      ·rcases List.mem_cons.1 hx' with rfl | hx'
       ·exact hx
       ·exact a3 x hx'
      ·rcases a4 with ⟨b1,b2⟩ | ⟨z,b1,b2,b3,b4⟩
       ·exact .inl ⟨b1,by rw [b2]; simp⟩
       ·exact .inr ⟨z,b1,b2,b3,b4⟩
     | false =>
      refine ⟨[(w,false)],rfl,by simp; omega,fun x hx'=>?_,.inr ⟨w,rfl,hx.1.1,hx.1.2,?_⟩⟩
      ·rcases List.mem_cons.1 hx' with rfl | hx'
       ·exact hx
       ·cases hx'
      ·have:w.1 = p:=o1.2.2.1
       rw [this]
       rfl
  ·rw [if_neg hp,if_neg hp]
   exact ⟨[],rfl,(by simp; omega),fun x hx=>(by cases hx),.inl ⟨rfl,by simp⟩⟩
def okWs (l:List Wd):Prop:=l.length ≤ 1000∧∀ x ∈ l,x.2.1.length ≤ 1001∧x.2.2.length ≤ 1001
theorem line_eq {l:List UInt8} (hl:l.length ≤ 1000):∃ ws,lineF l = some ws∧(∀ a,okWs (ws.map fun x=>shW a x.1))∧((badF ws = none∧rowG l = some (ws.map (fun x=>x.1),-1)) ∨ (∃ w,badF ws = some w∧0 ≤ w.1∧rowG l = some ([],w.1))):=by
 obtain ⟨ws,a1,a2,a3,a4⟩:=row_eq hl (l.length + 1) [] 0 (Int.le_refl _) (by omega) (by omega)
 refine ⟨ws,a1,fun a=>⟨by simp only [List.length_map]; omega,fun x hx=>?_⟩,?_⟩
 ·obtain ⟨y,hy,rfl⟩:=List.mem_map.1 hx
  have:=(a3 y hy).2
  show y.1.2.1.length ≤ 1001∧y.1.2.2.length ≤ 1001
  omega
 rcases a4 with ⟨b1,b2⟩ | ⟨z,b1,b2,b3,b4⟩
 ·refine .inl ⟨b1,?_⟩
  unfold rowG
  rw [b2]
  simp only [Option.bind_some,List.nil_append]
  have hg:∀ x ∈ ws.map (fun x=>x.1),(0 ≤ x.1∧x.1 ≤ 1000)∧x.2.1.length ≤ 1001∧x.2.2.length ≤ 1001:=fun x hx=>by
   obtain ⟨y,hy,rfl⟩:=List.mem_map.1 hx
   have:=a3 y hy
   omega
  rw [if_pos ⟨(by show (-1:Int) ≤ -1; decide),(by show (-1:Int) ≤ 1000; decide),(by simp only [List.length_map]; omega),hg⟩]
 ·refine .inr ⟨z,b1,b2,?_⟩
  unfold rowG
  rw [b4]
  simp only [Option.bind_some]
  rw [if_pos ⟨by show -1 ≤ z.1; omega,by show z.1 ≤ 1000; omega,by simp,fun x hx=>by cases hx⟩]
theorem rows_eq:∀ (ps:List (List UInt8)) (o:List (Int × List Wd)) (a:Int),(∀ r ∈ o,r.2 ≠ []∧okWs r.2)→∃ r,rowsF lineF ps o a = some r∧refRowsF rowG ps o a = some r∧r.1.length ≤ o.length + ps.length∧(∀ x ∈ r.1,x.2 ≠ []∧okWs x.2)∧(r.2.1 ≠ 0→r.1 = [])
 | [],o,a,ho=>⟨_,rfl,rfl,by simp,ho,fun h=>absurd rfl h⟩
 | p :: ps,o,a,ho=>by
  rw [rowsF,refRowsF]
  by_cases hp:1000 < p.length
  ·rw [if_pos hp,if_pos hp]
   exact ⟨_,rfl,rfl,(by simp),fun x hx=>(by cases hx),fun _=>rfl⟩
  ·rw [if_neg hp,if_neg hp]
   obtain ⟨ws,h1,hws,⟨h2,h3⟩ | ⟨w,h2,h3,h4⟩⟩:=line_eq (l:=p) (by omega)
   ·rw [h1,h3]
    simp only [Option.bind_some,h2]
    rw [if_neg (show ¬ (0:Int) ≤ -1 by decide)]
    have e1:(ws.map (fun x=>x.1) = []) = (ws = []):=propext List.map_eq_nil_iff
    simp only [e1,List.map_map]
    have e2:(fun x:Wd × Bool=>shW a x.1) = shW a ∘ fun x=>x.1:=rfl
    rw [e2]
    obtain ⟨r,r1,r2,r3,r4,r5⟩:=rows_eq ps (if ws = [] then o else o++[(a,ws.map (shW a ∘ fun x=>x.1))]) (a + (p.length + 1)) (fun r hr=>by
     split at hr
     ·exact ho r hr
     ·rename_i hne
      rcases List.mem_append.1 hr with hr | hr
      ·exact ho r hr
      ·simp only [List.mem_singleton] at hr
       subst hr
       exact ⟨by simpa using hne,by have:=hws a; rw [e2,← List.map_map] at this; simpa [List.map_map] using this⟩)
    refine ⟨r,?_,?_,?_,r4,r5⟩
    ·exact r1
    ·exact r2
    split at r3
    ·simp only [List.length_cons]; omega
    ·simp only [List.length_append,List.length_cons,List.length_nil] at r3 ⊢; omega
   ·rw [h1,h4]
    simp only [Option.bind_some,h2]
    rw [if_pos h3,Int.add_comm]
    exact ⟨_,rfl,rfl,(by simp),fun x hx=>(by cases hx),fun _=>rfl⟩
theorem pieces_len (c:UInt8):∀ l:List UInt8,(pieces c l).length ≤ l.length + 1
 | []=>Nat.le_refl _
 | x :: l=>by
  have:=pieces_len c l
  unfold pieces
  split
  ·simp; omega
  ·split
   ·rename_i p ps h
    rw [h] at this
    simp at this ⊢; omega
   ·simp
def okRow (l:List Word):Prop:=l.length ≤ 1000∧∀ x ∈ l,x.Key.length ≤ 1001∧x.Text.length ≤ 1001
theorem Rows_eq (x:List UInt8):∃ r,words_Rows x = some r∧packhorseref03_Rows x = some r∧r.1.length ≤ x.length + 1∧(∀ y ∈ r.1,y.Words ≠ []∧okRow y.Words)∧(r.2.Err ≠ 0→r.1 = []):=by
 unfold words_Rows packhorseref03_Rows
 by_cases hx:20000 < x.length
 ·rw [if_pos hx,if_pos hx]
  exact ⟨_,rfl,rfl,(by simp),fun y hy=>(by cases hy),fun _=>rfl⟩
 ·rw [if_neg hx,if_neg hx]
  obtain ⟨r,r1,r2,r3,r4,r5⟩:=rows_eq (pieces 10 x) [] 0 (fun r hr=>by cases hr)
  rw [r1,r2]
  refine ⟨_,rfl,rfl,?_,fun y hy=>?_,fun h=>?_⟩
  ·have:=pieces_len 10 x
   simp only [List.length_map,List.length_nil] at r3 ⊢; omega
  ·obtain ⟨z,hz,rfl⟩:=List.mem_map.1 hy
   have:=r4 z hz
   obtain ⟨t1,t2,t3⟩:=this
   unfold mkRow
   refine ⟨by simpa using t1,by simpa using t2,fun x hx=>?_⟩
   obtain ⟨v,hv,rfl⟩:=List.mem_map.1 hx
   exact t3 v hv
  ·have h':r.2.1 ≠ 0:=h
   show r.1.map mkRow = []
   rw [r5 h']; rfl
end Go.Proofs.YtjcbpfhlgebgdaaDoor
