import Derived.Test.YtjcbpfhlgebgdaaGreatDoorXGSt
import Derived.Test.YtjcbpfhlgebgdaaGreatDoorXL
import Derived.Test.YtjcbpfhlgebgdaaGreatDoorP22v
import Derived.Lib.SplitLaws
import Derived.Lib.IndexBytes
import Derived.Test.YtjcbpfhlgebgdaaGreatDoorXGSr
import Derived.Test.YtjcbpfhlgebgdaaGreatDoorPDel
import Derived.Test.YtjcbpfhlgebgdaaGreatDoorXO
open Option renaming bind_some -> zug
open List renaming length_append -> zuh
set_option linter.unusedSimpArgs false
set_option linter.unusedVariables false
namespace Go.Proofs.YtjcbpfhlgebgdaaGreatDoor
open Go Go.Eng Go.RowKit Go.X Go.Seq
def isD (c:UInt8):Prop:=48 <= c.toNat/\c.toNat <= 57
instance (c:UInt8):Decidable (isD c):=by unfold isD; infer_instance
theorem zki:∀ {l:List UInt8} {n:Int},(zbc n l).2 = true->∀ c ∈ l,isD c
 | [],n,h,c,hc=>by cases hc
 | x :: l,n,h,c,hc=>by
  unfold zbc at h
  split at h
  ·cases h
  ·rename_i h1
   split at h
   ·cases h
   ·rcases List.mem_cons.1 hc with rfl | hc
    ·unfold isD; omega
    ·exact zki h c hc
theorem zaz {s:List UInt8} (h:(Zk s).2 = true):∀ c ∈ s,isD c:=by
 unfold Zk at h
 split at h
 ·cases h
 ·exact zki h
theorem zb4:∀ {a a' r r':List UInt8} {x x':UInt8},(∀ c ∈ a,isD c)->(∀ c ∈ a',isD c)->¬ isD x->¬ isD x'->a++x :: r = a'++x' :: r'->a = a'/\x = x'/\r = r'
 | [],[],r,r',x,x',_,_,_,_,h=>by simp only [List.nil_append,List.cons.injEq] at h; exact ⟨rfl,h.1,h.2⟩
 | [],b :: a',r,r',x,x',_,h2,h3,_,h=>by
  simp only [List.nil_append,List.cons_append,List.cons.injEq] at h
  exact absurd (by rw [h.1]; exact h2 b (List.mem_cons_self ..)) h3
 | b :: a,[],r,r',x,x',h1,_,_,h4,h=>by
  simp only [List.nil_append,List.cons_append,List.cons.injEq] at h
  exact absurd (by rw [<- h.1]; exact h1 b (List.mem_cons_self ..)) h4
 | b :: a,b' :: a',r,r',x,x',h1,h2,h3,h4,h=>by
  simp only [List.cons_append,List.cons.injEq] at h
  obtain ⟨rfl,h⟩:=h
  obtain ⟨rfl,e2,e3⟩:=zb4 (fun c hc=>h1 c (List.mem_cons_of_mem _ hc)) (fun c hc=>h2 c (List.mem_cons_of_mem _ hc)) h3 h4 h
  exact ⟨rfl,e2,e3⟩
def dgP (s:List UInt8):List UInt8:=s.takeWhile fun c=>decide (isD c)
theorem Qi:∀ s:List UInt8,s = dgP s++s.drop (dgP s).length/\(∀ c ∈ dgP s,isD c)/\(∀ x r,s.drop (dgP s).length = x :: r->¬ isD x)
 | []=>⟨rfl,fun c hc=>(by cases hc),fun x r h=>(by cases h)⟩
 | c :: s=>by
  obtain ⟨h1,h2,h3⟩:=Qi s
  by_cases hc:isD c
  ·have e:dgP (c :: s) = c :: dgP s:=by unfold dgP; rw [List.takeWhile_cons,if_pos (by simpa using hc)]
   rw [e]
   refine ⟨by simpa using h1,fun x hx=>?_,by simpa using h3⟩
   rcases List.mem_cons.1 hx with rfl | hx
   ·exact hc
   ·exact h2 x hx
  ·have e:dgP (c :: s) = []:=by unfold dgP; rw [List.takeWhile_cons,if_neg (by simpa using hc)]
   rw [e]
   refine ⟨rfl,fun x hx=>(by cases hx),fun x r h=>?_⟩
   simp only [List.length_nil,List.drop_zero,List.cons.injEq] at h
   rw [<- h.1]; exact hc
theorem zrf {s:List UInt8} (h:∀ c ∈ s,isD c):dgP s = s:=by
 obtain ⟨h1,h2,h3⟩:=Qi s
 cases hr:s.drop (dgP s).length with
 | nil=>rw [hr,List.append_nil] at h1; exact h1.symm
 | cons x r =>
  exact absurd (h x (List.mem_of_mem_drop (i:=(dgP s).length) (by rw [hr]; exact List.mem_cons_self ..))) (h3 x r hr)
theorem zsl (s:List UInt8):(dgP s).length <= s.length:=by
 have:=congrArg List.length (Qi s).1
 simp only [zuh] at this
 omega
theorem zdn {s:List UInt8} {i:Nat} {c:UInt8} (h:s[i]? = some c):yi s (i:Int) = some (c.toNat:Int):=by
 unfold yi idx
 rw [if_pos (by omega),Int.toNat_natCast,h]
 rfl
theorem zf6 {α:Type} {s:List α} {lo hi:Nat} (h1:lo <= hi) (h2:hi <= s.length):slc s (lo:Int) (hi:Int) = some ((s.take hi).drop lo):=by
 unfold slc
 rw [if_pos ⟨by omega,by omega,by omega⟩]
 simp
theorem zpl (s:List UInt8) (hs:s.length < 1000000):zS s = some ((Zk (dgP s)).1,s.drop (dgP s).length,(Zk (dgP s)).2):=by
 refine W.eq ?_
 unfold zS
 obtain ⟨p1,p2,p3⟩:=Qi s
 have hle:=zsl s
 have fin:∀ k:Nat,k = (dgP s).length->W ((slc s (0:Int) (k:Int)).bind fun x_7=>(zI x_7).bind fun (x_8,x_9)=>(slc s (k:Int) (s.length:Int)).bind fun x_10=>some (x_8,x_10,x_9)) fun x=>x = ((Zk (dgP s)).1,s.drop (dgP s).length,(Zk (dgP s)).2):=by
  rintro k rfl
  have e1:(s.take (dgP s).length).drop 0 = dgP s:=by
   rw [List.drop_zero]
   have:=congrArg (List.take (dgP s).length) p1
   rwa [List.take_left] at this
  refine yJ (zf6 (lo:=0) (Nat.zero_le _) hle) ?_
  rw [e1]
  refine yJ ((zq6 _).trans (zhG (by omega))) ?_
  refine yJ (zf6 hle (Nat.le_refl _)) ?_
  rw [List.take_length]
  exact yk rfl
 refine ZG (fun i:Int=>0 <= i/\i <= ((dgP s).length:Int)) (fun i=>s.length - i.toNat) ?_ ⟨Int.le_refl _,by omega⟩
 rintro i ⟨h0,h1⟩
 obtain ⟨k,rfl⟩:∃ k:Nat,i = k:=⟨i.toNat,by omega⟩
 refine yh (fun hi=>?_) fun hi=>yy (fin k (by omega))
 have hk:k < s.length:=by omega
 obtain ⟨c,hc⟩:∃ c,s[k]? = some c:=⟨s[k],List.getElem?_eq_getElem hk⟩
 by_cases hd:isD c
 ·have hlt:k < (dgP s).length:=by
   rcases Nat.lt_or_ge k (dgP s).length with h | h
   ·exact h
   ·have e:k = (dgP s).length:=by omega
    have:s.drop (dgP s).length = c :: s.drop (k + 1):=by
     rw [<- e,List.drop_eq_getElem_cons hk]
     congr 1
     rw [List.getElem?_eq_getElem hk] at hc
     exact Option.some.inj hc
    exact absurd hd (p3 _ _ this)
  have hd':=hd
  unfold isD at hd'
  refine yJ (zdn hc) ?_
  refine yh (fun _=>?_) fun h=>absurd (by omega) h
  refine yJ (zdn hc) ?_
  refine yh (fun _=>?_) fun h=>absurd (by omega) h
  refine ZK fun j hj=>?_
  have hj':j = (k:Int) + 1:=hj
  refine qk ⟨⟨by omega,by omega⟩,?_⟩
  subst hj'
  omega
 ·have he:k = (dgP s).length:=by
   rcases Nat.lt_or_ge k (dgP s).length with h | h
   ·rw [p1,List.getElem?_append_left h] at hc
    exact absurd (p2 c (List.mem_of_getElem? hc)) hd
   ·omega
  refine yJ (zdn hc) ?_
  refine yh (fun h48=>?_) fun _=>yy (fin k he)
  refine yJ (zdn hc) ?_
  refine yh (fun h57=>?_) fun _=>yy (fin k he)
  exact absurd (show isD c by unfold isD; omega) hd
def OKN (s:List UInt8):Prop:=(Zk s).2 = true
def Tv:List UInt8->List UInt8->List Int->Prop
 | [],t,l=>OKN t/\l = [(Zk t).1]
 | x :: xs,t,l=>∃ a t' l',t = a++x :: t'/\OKN a/\Tv xs t' l'/\l = (Zk a).1 :: l'
theorem Tv.det:∀ {xs t:List UInt8} {l l':List Int},(∀ x ∈ xs,¬ isD x)->Tv xs t l->Tv xs t l'->l = l'
 | [],t,l,l',_,h,h'=>h.2.trans h'.2.symm
 | x :: xs,t,l,l',hx,h,h'=>by
  obtain ⟨a,t1,l1,e1,o1,v1,rfl⟩:=h
  obtain ⟨b,t2,l2,e2,o2,v2,rfl⟩:=h'
  have hxx:=hx x (List.mem_cons_self ..)
  obtain ⟨rfl,_,rfl⟩:=zb4 (zaz o1) (zaz o2) hxx hxx (e1.symm.trans e2)
  rw [Tv.det (fun y hy=>hx y (List.mem_cons_of_mem _ hy)) v1 v2]
theorem zm1 {x:UInt8} {xs t t':List UInt8} (hx:¬ isD x) (ho:OKN (dgP t)) (hr:t.drop (dgP t).length = x :: t') (l:List Int):Tv (x :: xs) t l ↔ ∃ l',Tv xs t' l'/\l = (Zk (dgP t)).1 :: l':=by
 have e:t = dgP t++x :: t':=by rw [<- hr]; exact (Qi t).1
 constructor
 ·rintro ⟨a,t1,l1,e1,o1,v1,hl⟩
  obtain ⟨h1,_,rfl⟩:=zb4 (zaz o1) (Qi t).2.1 hx hx (e1.symm.trans e)
  rw [<- h1]
  exact ⟨l1,v1,hl⟩
 ·rintro ⟨l1,v1,hl⟩
  exact ⟨dgP t,t',l1,e,ho,v1,hl⟩
theorem ziK {x:UInt8} {xs t:List UInt8} (hx:¬ isD x) {l:List Int} (h:Tv (x :: xs) t l):OKN (dgP t)/\∃ t',t.drop (dgP t).length = x :: t':=by
 obtain ⟨a,t1,l1,e1,o1,v1,rfl⟩:=h
 obtain ⟨p1,p2,p3⟩:=Qi t
 cases hr:t.drop (dgP t).length with
 | nil =>
  rw [hr,List.append_nil] at p1
  have:isD x:=p2 x (by rw [<- p1,e1]; simp)
  exact absurd this hx
 | cons y r =>
  rw [hr] at p1
  obtain ⟨rfl,rfl,rfl⟩:=zb4 (zaz o1) p2 hx (p3 y r hr) (e1.symm.trans p1)
  exact ⟨o1,_,rfl⟩
theorem zlL {t:List UInt8} {l:List Int}:Tv [] t l ↔ OKN (dgP t)/\t.drop (dgP t).length = []/\l = [(Zk (dgP t)).1]:=by
 obtain ⟨p1,p2,p3⟩:=Qi t
 constructor
 ·rintro ⟨h1,hl⟩
  have e:=zrf (zaz h1)
  rw [e]
  exact ⟨h1,by simp,hl⟩
 ·rintro ⟨h1,h2,hl⟩
  rw [h2,List.append_nil] at p1
  rw [<- p1] at h1 hl
  exact ⟨h1,hl⟩
theorem zti {xs t:List UInt8} (hx:∀ x ∈ xs,¬ isD x) {l:List Int} (h:Tv xs t l):OKN (dgP t):=by
 cases xs with
 | nil=>exact (zlL.1 h).1
 | cons x xs=>exact (ziK (hx x (List.mem_cons_self ..)) h).1
theorem zpm {α:Type} (y:α) (t:List α):slc (y :: t) (1:Int) ((y :: t).length:Int) = some t:=by
 have h:=zf6 (s:=y :: t) (lo:=1) (hi:=(y :: t).length) (by simp) (Nat.le_refl _)
 rw [List.take_length] at h
 exact h
instance {a b:List UInt8}:BP (a == b) (a = b):=⟨fun h=>eq_of_beq h,fun h q=>by rw [q,beq_self_eq_true] at h; cases h⟩
def zM:Mrk:=⟨⟨0,0,0⟩,0⟩
def sps:List UInt8:=[46,46,47]
theorem zf7:∀ x ∈ sps,¬ isD x:=by unfold sps isD; decide
theorem zsm {k:Nat} (hk:k < 3):∃ x,sps[k]? = some x/\sps.drop k = x :: sps.drop (k + 1)/\¬ isD x:=by
 match k,hk with
 | 0,_=>exact ⟨46,rfl,rfl,zf7 _ (by decide)⟩
 | 1,_=>exact ⟨46,rfl,rfl,zf7 _ (by decide)⟩
 | 2,_=>exact ⟨47,rfl,rfl,zf7 _ (by decide)⟩
def mkM (l:List Int):Mrk:=⟨⟨l.getD 0 0,l.getD 1 0,l.getD 2 0⟩,l.getD 3 0⟩
def MR (s:List UInt8) (r:Mrk × Bool):Prop:=(∃ l,Tv sps s l/\r = (mkM l,true)) ∨ (r = (zM,false)/\∀ l,¬ Tv sps s l)
theorem MR.det {s:List UInt8} {r r':Mrk × Bool} (h:MR s r) (h':MR s r'):r = r':=by
 rcases h with ⟨l,h1,rfl⟩ | ⟨rfl,h1⟩ <;> rcases h' with ⟨l',h1',rfl⟩ | ⟨rfl,h1'⟩
 ·rw [h1.det zf7 h1']
 ·exact absurd h1 (h1' l)
 ·exact absurd h1' (h1 l')
 ·rfl
theorem zkj:∀ {xs t:List UInt8} {l:List Int},Tv xs t l->l.length = xs.length + 1/\∀ n ∈ l,0 <= n/\n <= 1125899906842624
 | [],t,l,h=>by
  obtain ⟨_,rfl⟩:=h
  exact ⟨rfl,fun n hn=>by simp only [List.mem_singleton] at hn; subst hn; exact QL t⟩
 | x :: xs,t,l,h=>by
  obtain ⟨a,t',l',_,_,v,rfl⟩:=h
  obtain ⟨h1,h2⟩:=zkj v
  refine ⟨by simp [h1],fun n hn=>?_⟩
  rcases List.mem_cons.1 hn with rfl | hn
  ·exact QL a
  ·exact h2 n hn
theorem Yz {n:Int} (h0:0 <= n) (h1:n <= 1125899906842624):Go.IntKind.wrap .i64 n = n:=by rw [IntKind.wrap_i64]; omega
set_option maxHeartbeats 4000000 in
theorem zsn (s:List UInt8) (hs:s.length < 1000000):W (yf s) (MR s):=by
 unfold yf
 refine ZG (fun st:List UInt8 × List Int × Int × Mrk=>st.2.2.2 = zM/\st.1.length <= s.length/\0 <= st.2.2.1/\st.2.2.1 <= 4/\(st.2.1.length:Int) = st.2.2.1 /\
   (st.2.2.1 <= 3->∀ l,Tv sps s l ↔ ∃ l',Tv (sps.drop st.2.2.1.toNat) st.1 l'/\l = st.2.1++l')/\(st.2.2.1 = 4->Tv sps s st.2.1)) (fun st=>4 - st.2.2.1.toNat) ?_
   ⟨rfl,Nat.le_refl _,Int.le_refl _,(by dsimp only; omega),rfl,fun _ l=>⟨fun h=>⟨l,h,rfl⟩,fun ⟨l',h,e⟩=>by rw [e]; exact h⟩,fun h=>by cases h⟩
 rintro ⟨t,l,i,z⟩ ⟨rfl,ht,h0,h4,hl,hI,hE⟩
 dsimp only at ht h0 h4 hl hI hE ⊢
 refine yh (fun hi=>?_) fun hi=>?_
 ·have hi3:=hI (by omega)
  refine yJ (zpl t (by omega)) ?_
  have htl:(t.drop (dgP t).length).length <= s.length:=by rw [List.length_drop]; omega
  have bad:(∀ l',¬ Tv (sps.drop i.toNat) t l')->MR s (zM,false):=fun h=>.inr ⟨rfl,fun l hl=>by obtain ⟨l',h',_⟩:=(hi3 l).1 hl; exact h l' h'⟩
  dsimp only
  cases hok:(Zk (dgP t)).2 with
  | false =>
   refine Qx (zeW (yy (yk (bad fun l' h'=>?_))))
   have:=zti (fun x hx=>zf7 x (List.mem_of_mem_drop hx)) h'
   rw [OKN,hok] at this
   cases this
  | true =>
  refine Qx (Q0 ?_)
  refine yh (fun hlt=>?_) fun hlt=>?_
  ·obtain ⟨k,rfl⟩:∃ k:Nat,i = k:=⟨i.toNat,by omega⟩
   have hk:k < 3:=by omega
   obtain ⟨x,hx,hdr,hnx⟩:=zsm hk
   rw [Int.toNat_natCast,hdr] at hi3 bad
   cases hr:t.drop (dgP t).length with
   | nil =>
    refine yh (fun _=>yy (yk (bad fun l' h'=>?_))) fun h=>absurd rfl h
    obtain ⟨_,t',e⟩:=ziK hnx h'
    rw [hr] at e; cases e
   | cons y t' =>
   refine yh (fun h=>by cases h) fun _=>?_
   refine yJ (a:=(y.toNat:Int)) rfl ?_
   refine yJ (zdn (s:=sps) hx) ?_
   refine yh (fun hne=>yy (yk (bad fun l' h'=>?_))) fun hne=>?_
   ·obtain ⟨_,t'',e⟩:=ziK hnx h'
    rw [hr] at e
    cases e
    exact hne rfl
   have hyx:y = x:=UInt8.toNat_inj.1 (by omega)
   subst hyx
   refine yh (fun h=>absurd h (by omega)) fun _=>?_
   refine znF (by simp; omega) ?_
   refine yh (fun _=>?_) fun h=>absurd hlt h
   refine yJ (zpm y t') ?_
   refine ZK fun j hj=>?_
   have hj':j = (k:Int) + 1:=hj
   subst hj'
   refine qk ⟨⟨rfl,by rw [hr] at htl; simp at htl; dsimp only; omega,by dsimp only; omega,by dsimp only; omega,by dsimp only; simp; omega,fun _ l2=>?_,fun h=>absurd h (by dsimp only; omega)⟩,by dsimp only; omega⟩
   dsimp only
   rw [hi3 l2,show ((k:Int) + 1).toNat = k + 1 from by omega]
   constructor
   ·rintro ⟨l3,h3,rfl⟩
    obtain ⟨l4,h4,rfl⟩:=(zm1 hnx hok hr l3).1 h3
    exact ⟨l4,h4,by simp⟩
   ·rintro ⟨l4,h4,rfl⟩
    exact ⟨_,(zm1 hnx hok hr _).2 ⟨l4,h4,rfl⟩,by simp⟩
  ·have e3:i = 3:=by omega
   subst e3
   have hi4:∀ l2,Tv sps s l2 ↔ ∃ l',Tv [] t l'/\l2 = l++l':=hi3
   have bad2:(∀ l',¬ Tv [] t l')->MR s (zM,false):=bad
   refine yh (fun _=>?_) fun h=>absurd rfl h
   cases hr:t.drop (dgP t).length with
   | cons y t' =>
    refine yh (fun _=>yy (yk (bad2 fun l' h'=>?_))) fun h=>absurd (fun e=>by cases e) h
    have:=(zlL.1 h').2.1
    rw [hr] at this
    cases this
   | nil =>
   refine yh (fun h=>absurd rfl h) fun _=>?_
   refine znF (by simp; omega) ?_
   refine yh (fun h=>absurd h (by decide)) fun _=>?_
   refine ZK fun j hj=>?_
   have hj':j = (3:Int) + 1:=hj
   subst hj'
   refine qk ⟨⟨rfl,ht,by dsimp only; omega,by dsimp only; omega,by dsimp only; simp; omega,fun h=>absurd h (by dsimp only; omega),fun _=>?_⟩,by dsimp only; omega⟩
   exact (hi4 _).2 ⟨_,zlL.2 ⟨hok,hr,rfl⟩,rfl⟩
 ·have e4:i = 4:=by omega
  have hv:=hE e4
  obtain ⟨r1,r2⟩:=zkj hv
  refine yy ?_
  show W ((idx l (0:Int)).bind _) _
  obtain ⟨n0,n1,n2,n3,rfl⟩:∃ n0 n1 n2 n3,l = [n0,n1,n2,n3]:=by
   match l,r1 with
   | [a,b,c,d],_=>exact ⟨a,b,c,d,rfl⟩
  refine yJ (a:=n0) rfl ?_
  refine yJ (a:=n1) rfl ?_
  refine yJ (a:=n2) rfl ?_
  refine yJ (a:=n3) rfl ?_
  have g0:=r2 n0 (by simp)
  have g2:=r2 n2 (by simp)
  have g3:=r2 n3 (by simp)
  rw [Yz g0.1 g0.2,Yz g2.1 g2.2,Yz g3.1 g3.2]
  exact yk (.inl ⟨_,hv,rfl⟩)
open Go Go.Eng Go.RowKit Go.X Go.Seq
theorem zpn:∀ {s:List UInt8} {c:UInt8},c ∉ s->Lib.indexByte s c = -1
 | [],c,_=>rfl
 | b :: l,c,h=>by
  have h1:b ≠ c:=fun e=>h (by rw [e]; exact List.mem_cons_self ..)
  have:=zpn (s:=l) (c:=c) fun hm=>h (List.mem_cons_of_mem _ hm)
  unfold Lib.indexByte
  rw [this]
  simp [h1]
theorem zpo:∀ {x y:List UInt8} {c:UInt8},c ∉ x->Lib.indexByte (x++c :: y) c = x.length
 | [],y,c,_=>by simp [Lib.indexByte]
 | b :: x,y,c,h=>by
  have h1:b ≠ c:=fun e=>h (by rw [e]; exact List.mem_cons_self ..)
  have ih:=zpo (x:=x) (y:=y) (c:=c) fun hm=>h (List.mem_cons_of_mem _ hm)
  rw [List.cons_append]
  unfold Lib.indexByte
  rw [ih,if_neg (by simpa using h1),if_neg (by simp)]
  simp
def pcs (s:List UInt8):List (List UInt8):=Lib.splitK [46] 0 (Lib.count s [46]) s
theorem zfm {s:List UInt8} (h:(46:UInt8) ∉ s):pcs s = [s]:=by
 unfold pcs
 rw [Lib.count_one,List.count_eq_zero.2 h]
 rfl
theorem zby {p r:List UInt8} (h:(46:UInt8) ∉ p):pcs (p++46 :: r) = p :: pcs r:=by
 unfold pcs
 rw [Lib.count_one,Lib.count_one]
 have e:(p++46 :: r).count 46 = r.count 46 + 1:=by rw [List.count_append,List.count_eq_zero.2 h,List.count_cons_self]; omega
 rw [e,Lib.splitK,Lib.index_one,zpo h,if_neg (by simp)]
 have e2:((p.length:Int)).toNat = p.length:=by omega
 rw [e2]
 simp
theorem zf8:∀ (k:Nat) (s:List UInt8),∀ x ∈ Lib.splitK [46] 0 k s,x.length <= s.length
 | 0,s,x,h=>by simp only [Lib.splitK,List.mem_singleton] at h; subst h; exact Nat.le_refl _
 | k + 1,s,x,h=>by
  rw [Lib.splitK] at h
  split at h
  ·simp only [List.mem_singleton] at h; subst h; exact Nat.le_refl _
  ·rcases List.mem_cons.1 h with rfl | h
   ·rw [List.length_take]; omega
   ·have:=zf8 k _ x h
    rw [List.length_drop] at this
    omega
theorem zm2 {x:List UInt8} (h:x.length <= 1000000):qe (x,([46]:List UInt8)) = some (pcs x):=by
 unfold qe
 dsimp only
 rw [if_pos ⟨h,fun y hy=>Nat.le_trans (zf8 _ _ y hy) h,by rw [Lib.count_one]; exact Nat.le_trans List.count_le_length h⟩]
 rfl
theorem zso (s:List UInt8):1 <= (pcs s).length:=by
 by_cases h:(46:UInt8) ∈ s
 ·obtain ⟨p,r,rfl,hp⟩:=List.eq_append_cons_of_mem h
  rw [zby hp]
  simp
 ·rw [zfm h]; simp
theorem zpp {s:List UInt8} (h:(pcs s).length = 1):(46:UInt8) ∉ s:=by
 intro hm
 obtain ⟨p,r,rfl,hp⟩:=List.eq_append_cons_of_mem hm
 rw [zby hp] at h
 have:=zso r
 simp only [List.length_cons] at h
 omega
theorem zm3 {s:List UInt8} {n:Nat} (h:(pcs s).length = n + 2):∃ p r,s = p++46 :: r/\pcs s = p :: pcs r/\(pcs r).length = n + 1:=by
 by_cases hm:(46:UInt8) ∈ s
 ·obtain ⟨p,r,rfl,hp⟩:=List.eq_append_cons_of_mem hm
  have e:=zby (r:=r) hp
  refine ⟨p,r,rfl,e,?_⟩
  rw [e,List.length_cons] at h
  omega
 ·rw [zfm hm] at h
  simp at h
theorem zpq {x:List UInt8} (h:(pcs x).length = 3):∃ a b c,x = a++46 :: (b++46 :: c)/\pcs x = [a,b,c]:=by
 obtain ⟨a,r,rfl,e1,h1⟩:=zm3 h
 obtain ⟨b,c,rfl,e2,h2⟩:=zm3 h1
 have h3:=zpp h2
 exact ⟨a,b,c,rfl,by rw [e1,e2,zfm h3]⟩
theorem zeC {c:UInt8}:∀ {x x' y y':List UInt8},c ∉ x->c ∉ x'->x++c :: y = x'++c :: y'->x = x'/\y = y'
 | [],[],y,y',_,_,h=>by simp only [List.nil_append,List.cons.injEq] at h; exact ⟨rfl,h.2⟩
 | [],b :: x',y,y',_,h2,h=>by
  simp only [List.nil_append,List.cons_append,List.cons.injEq] at h
  exact absurd (by rw [h.1]; exact List.mem_cons_self ..) h2
 | b :: x,[],y,y',h1,_,h=>by
  simp only [List.nil_append,List.cons_append,List.cons.injEq] at h
  exact absurd (by rw [<- h.1]; exact List.mem_cons_self ..) h1
 | b :: x,b' :: x',y,y',h1,h2,h=>by
  simp only [List.cons_append,List.cons.injEq] at h
  obtain ⟨rfl,h⟩:=h
  obtain ⟨rfl,e⟩:=zeC (fun hm=>h1 (List.mem_cons_of_mem _ hm)) (fun hm=>h2 (List.mem_cons_of_mem _ hm)) h
  exact ⟨rfl,e⟩
theorem zb5 {a:List UInt8} (h:OKN a) {x:UInt8} (hx:¬ isD x):x ∉ a:=fun hm=>hx (zaz h x hm)
theorem zsp:¬ isD 46:=by unfold isD; decide
theorem zsq:¬ isD 47:=by unfold isD; decide
theorem zm4 {s:List UInt8} {l:List Int} (h:Tv sps s l):∃ a b c d,s = (a++46 :: (b++46 :: c))++47 :: d/\OKN a/\OKN b/\OKN c/\OKN d/\l = [(Zk a).1,(Zk b).1,(Zk c).1,(Zk d).1]:=by
 obtain ⟨a,t1,l1,rfl,h1,⟨b,t2,l2,rfl,h2,⟨c,t3,l3,rfl,h3,⟨h4,rfl⟩,rfl⟩,rfl⟩,rfl⟩:=h
 exact ⟨a,b,c,t3,by simp,h1,h2,h3,h4,rfl⟩
theorem zpr {x y:List UInt8} {l:List Int} (hx:(47:UInt8) ∉ x) (h:Tv sps (x++47 :: y) l):∃ a b c,x = a++46 :: (b++46 :: c)/\OKN a/\OKN b/\OKN c/\OKN y/\pcs x = [a,b,c]:=by
 obtain ⟨a,b,c,d,e,h1,h2,h3,h4,_⟩:=zm4 h
 have hn:(47:UInt8) ∉ a++46 :: (b++46 :: c):=by
  intro hm
  simp only [List.mem_append,List.mem_cons] at hm
  rcases hm with hm | hm | hm | hm | hm
  ·exact zb5 h1 zsq hm
  ·cases hm
  ·exact zb5 h2 zsq hm
  ·cases hm
  ·exact zb5 h3 zsq hm
 obtain ⟨rfl,rfl⟩:=zeC hx hn e
 refine ⟨a,b,c,rfl,h1,h2,h3,h4,?_⟩
 rw [zby (zb5 h1 zsp),zby (zb5 h2 zsp),zfm (zb5 h3 zsp)]
theorem zrg {s:List UInt8} (h:(47:UInt8) ∉ s):y7 (s,([47]:List UInt8)) = some (s,[],false):=by
 have e:zN (s,([47]:List UInt8)) = some (-1):=congrArg some (zpn h)
 unfold y7 zC
 dsimp only
 rw [e]
 rfl
theorem zsr {x y:List UInt8} (h:(47:UInt8) ∉ x) (hl:x.length + y.length <= 1000000):y7 (x++47 :: y,([47]:List UInt8)) = some (x,y,true):=by
 have e:zN (x++47 :: y,([47]:List UInt8)) = some (x.length:Int):=congrArg some (zpo h)
 refine W.eq ?_
 unfold y7 zC
 dsimp only
 rw [e]
 refine Y8 (R:=fun r=>r = (x,y,true)) ?_ fun r hr=>by subst hr; exact yk rfl
 refine Yr ?_
 refine yh (fun _=>?_) fun h=>absurd (by omega) h
 refine yJ (zf6 (lo:=0) (hi:=x.length) (Nat.zero_le _) (by simp)) ?_
 refine ZK (fun j hj=>?_) (by simp only [List.length_cons,List.length_nil]; omega)
 have hj':j = ((x.length + 1:Nat):Int):=hj
 subst hj'
 refine yJ (zf6 (lo:=x.length + 1) (hi:=(x++47 :: y).length) (by simp) (Nat.le_refl _)) ?_
 refine yk ?_
 rw [List.take_length,List.take_left' rfl,List.drop_zero,show x++47 :: y = (x++[47])++y from by simp,List.drop_left' (by simp)]
theorem zss {l:List Int} {i:Nat} {x:Int} (h:i < l.length):zp9 l (i:Int) x = some (l.set i x):=by
 unfold zp9
 rw [if_pos ⟨by omega,by omega⟩]
 simp
set_option maxHeartbeats 4000000 in
theorem zst (s:List UInt8) (hs:s.length <= 100000):W (Zo s) (MR s):=by
 unfold Zo
 by_cases h47:(47:UInt8) ∈ s
 ·obtain ⟨x,y,rfl,hx⟩:=List.eq_append_cons_of_mem h47
  have hlx:x.length + y.length + 1 <= 100000:=by simpa [Nat.add_assoc] using hs
  refine yJ (zsr hx (by omega)) ?_
  dsimp only
  refine yJ (zm2 (by omega)) ?_
  refine Qx (Q0 ?_)
  refine yh (fun hne=>yk (.inr ⟨rfl,fun l hl=>?_⟩)) fun he=>?_
  ·obtain ⟨a,b,c,_,_,_,_,_,e⟩:=zpr hx hl
   rw [e] at hne
   exact hne rfl
  have h3:(pcs x).length = 3:=by
   have:((pcs x).length:Int) = 3:=Decidable.not_not.1 he
   omega
  obtain ⟨a,b,c,rfl,e⟩:=zpq h3
  rw [e]
  have hla:a.length + b.length + c.length + 2 <= 100000:=by simp at hlx; omega
  refine znF (by simp) ?_
  have hitems:∀ (k:Nat) (p:List UInt8),([a,b,c,y]:List (List UInt8))[k]? = some p->p.length < 1000000:=by
   intro k p hp
   have:=List.mem_of_getElem? hp
   simp only [List.mem_cons,List.not_mem_nil,or_false] at this
   rcases this with rfl | rfl | rfl | rfl <;> omega
  have hbad:∀ (k:Nat) (p:List UInt8),([a,b,c,y]:List (List UInt8))[k]? = some p->(Zk p).2 = false->MR ((a++46 :: (b++46 :: c))++47 :: y) (zM,false):=by
   intro k p hp hf
   refine .inr ⟨rfl,fun l hl=>?_⟩
   obtain ⟨a',b',c',e1,o1,o2,o3,o4,e2⟩:=zpr hx hl
   rw [e] at e2
   cases e2
   have:=List.mem_of_getElem? hp
   simp only [List.mem_cons,List.not_mem_nil,or_false] at this
   unfold OKN at o1 o2 o3 o4
   rcases this with rfl | rfl | rfl | rfl <;> simp_all
  show W ((qO _ _).bind _) _
  refine ZG (fun st:Int × Mrk × List Int=>st.2.1 = zM/\0 <= st.1/\st.1 <= 4/\st.2.2.length = 4/\∀ (k:Nat) p,(k:Int) < st.1->([a,b,c,y]:List (List UInt8))[k]? = some p->OKN p/\st.2.2[k]? = some (Zk p).1) (fun st=>4 - st.1.toNat) ?_
   ⟨rfl,Int.le_refl _,by decide,rfl,fun k p hk _=>by dsimp only at hk; omega⟩
  rintro ⟨i,z,v⟩ ⟨rfl,h0,h4,hv,hI⟩
  dsimp only at h0 h4 hv hI ⊢
  have hlit:=zcq hv
  rw [hlit]
  refine yh (fun hi=>?_) fun hi=>?_
  ·have hi4:i < 4:=hi
   obtain ⟨k,rfl⟩:∃ k:Nat,i = k:=⟨i.toNat,by omega⟩
   refine Zr h0 hi fun p hp=>?_
   rw [Int.toNat_natCast] at hp
   have hp':([a,b,c,y]:List (List UInt8))[k]? = some p:=hp
   refine yJ (zhG (hitems k p hp')) ?_
   cases hok:(Zk p).2 with
   | false=>exact Qx (zeW (yy (yk (hbad k p hp' hok))))
   | true =>
   refine Qx (Q0 ?_)
   refine zqz h0 (by omega) ?_
   refine yJ (zss (by omega)) ?_
   refine ZK fun j hj=>?_
   have hj':j = (k:Int) + 1:=hj
   subst hj'
   have hset:(v.set k (Zk p).1).length = 4:=by simp [hv]
   rw [zcq hset]
   refine qk ⟨⟨rfl,by dsimp only; omega,by dsimp only; omega,hset,fun q r hq hr=>?_⟩,by dsimp only; omega⟩
   dsimp only at hq
   show OKN r/\(v.set k (Zk p).1)[q]? = some (Zk r).1
   by_cases hqk:q = k
   ·subst hqk
    rw [hp'] at hr
    cases hr
    exact ⟨hok,by rw [List.getElem?_set_self (by omega)]⟩
   ·obtain ⟨g1,g2⟩:=hI q r (by omega) hr
    exact ⟨g1,by rw [List.getElem?_set_ne (by omega)]; exact g2⟩
  ·have e4:i = 4:=by
    have:¬ i < 4:=hi
    omega
   subst e4
   obtain ⟨o0,g0⟩:=hI 0 a (by decide) rfl
   obtain ⟨o1,g1⟩:=hI 1 b (by decide) rfl
   obtain ⟨o2,g2⟩:=hI 2 c (by decide) rfl
   obtain ⟨o3,g3⟩:=hI 3 y (by decide) rfl
   obtain ⟨n0,n1,n2,n3,rfl⟩:∃ n0 n1 n2 n3,v = [n0,n1,n2,n3]:=by
    match v,hv with
    | [a,b,c,d],_=>exact ⟨a,b,c,d,rfl⟩
   simp at g0 g1 g2 g3
   subst g0 g1 g2 g3
   have r0:=QL a
   have r2:=QL c
   have r3:=QL y
   refine yy (yk (.inl ⟨[(Zk a).1,(Zk b).1,(Zk c).1,(Zk y).1],⟨a,b++46 :: (c++47 :: y),[(Zk b).1,(Zk c).1,(Zk y).1],by simp [List.append_assoc],o0,⟨b,c++47 :: y,[(Zk c).1,(Zk y).1],rfl,o1,⟨c,y,[(Zk y).1],rfl,o2,⟨o3,rfl⟩,rfl⟩,rfl⟩,rfl⟩,?_⟩))
   show ((⟨⟨Go.IntKind.wrap .i64 (Zk a).1,(Zk b).1,Go.IntKind.wrap .i64 (Zk c).1⟩,Go.IntKind.wrap .i64 (Zk y).1⟩:Mrk),true) = _
   rw [Yz r0.1 r0.2,Yz r2.1 r2.2,Yz r3.1 r3.2]
   rfl
 ·refine yJ (zrg h47) ?_
  dsimp only
  refine yJ (zm2 (by omega)) ?_
  refine Qx (zeW (yk (.inr ⟨rfl,fun l hl=>?_⟩)))
  obtain ⟨a,b,c,d,e,_⟩:=zm4 hl
  exact h47 (by rw [e]; simp)
open Go.X Go.Eng
def two:List Mrk:=[⟨⟨2,3,0⟩,50⟩,⟨⟨2,5,0⟩,90⟩]
def ztj:List UInt8:=[50,46,51,46,48,47,53,48,10,50,46,53,46,48,47,57,48,10]
theorem zhK {α:Type} (o:Option α):zje o o = o:=by unfold zje; simp
def zdY (a b:Int):Int:=if a < b then -1 else if b < a then 1 else 0
theorem zsu (a b:Int):qn (a,b) = some (zdY a b):=by
 have hn:∀ x,qW x = some false:=fun x=>by unfold qW; simp
 unfold qn zdY
 simp only [hn,zug,br,cond_false]
 by_cases h1:a < b
 ·simp [h1]
 ·by_cases h2:b < a <;> simp [h1,h2]
theorem zsv (a b:Int):yU (a,b) = some (zdY a b):=by
 have hn:∀ x,qo x = some false:=fun x=>by unfold qo; simp
 unfold yU zdY
 simp only [hn,zug,br,cond_false]
 by_cases h1:a < b
 ·simp [h1]
 ·by_cases h2:b < a <;> simp [h1,h2]
theorem zsw (a b:Int):zP (a,b) = some (zdY a b):=by
 unfold zP zdY
 simp only [br]
 by_cases h1:a < b
 ·simp [h1]
 ·by_cases h2:b < a <;> simp [h1,h2]
def orL:List Int->Int
 | []=>0
 | x :: l=>if x ≠ 0 then x else orL l
theorem ztP (l:List Int) (hl:l.length <= 1000):QZ l = some (orL l):=by
 refine W.eq ?_
 unfold QZ
 refine ZG (fun i:Int=>0 <= i/\i <= l.length/\orL l = orL (l.drop i.toNat)) (fun i=>l.length - i.toNat) ?_ ⟨by omega,by omega,rfl⟩
 rintro i ⟨h0,h1,h2⟩
 refine yh (fun h=>?_) fun h=>?_
 ·refine Zr h0 h fun x hx=>?_
  have hd:l.drop i.toNat = x :: l.drop (i.toNat + 1):=by
   obtain ⟨q,rfl⟩:=List.getElem?_eq_some_iff.1 hx
   exact List.drop_eq_getElem_cons q
  rw [hd] at h2
  refine yh (fun h3=>yy (yk ?_)) fun h3=>?_
  ·rw [h2]; unfold orL; rw [if_pos h3]
  ·refine ZK fun j hj=>qk ⟨⟨by omega,by omega,?_⟩,by omega⟩
   rw [h2,show j.toNat = i.toNat + 1 from by omega]
   show (if _ then _ else _) = _
   rw [if_neg h3]
 ·refine yy (yk ?_)
  rw [h2,List.drop_eq_nil_of_le (by omega)]
  rfl
theorem zdo (a b:Int):(a < b/\zdY a b = -1) ∨ (a = b/\zdY a b = 0) ∨ (b < a/\zdY a b = 1):=by
 unfold zdY
 (repeat' split) <;> omega
theorem zao {x:Int} {l:List Int} (h:x ≠ 0):orL (x :: l) = x:=by
 show (if _ then _ else _) = _
 rw [if_pos h]
theorem zkk {l:List Int}:orL (0 :: l) = orL l:=by
 show (if _ then _ else _) = _
 rw [if_neg (by simp)]
def zaA (a b:ID):Int:=orL [zdY a.Node b.Node,zdY a.Seq b.Seq,zdY a.Off b.Off]
abbrev zap (a b:Mrk):Int:=zaA a.ID b.ID
theorem zbz (a b:ID):zB (a,b) = some (zaA a b):=by
 unfold zB
 simp only [zsu,zsv,zug,ztP _ (show [_,_,_].length <= 1000 by simp)]
 rfl
theorem zps (x:Mrk) (id:ID):yA (x,id) = some (zaA x.ID id):=by
 unfold yA
 simp only [zbz,zug]
theorem zrh (a b:ID):zL (a,b) = some (zaA a b):=by
 unfold zL zaA
 simp only [zsw,zug,br]
 rcases zdo a.Node b.Node with ⟨h,e⟩ | ⟨h,e⟩ | ⟨h,e⟩
 ·have:(a.Node != b.Node) = true:=by simp; omega
  rw [e,this,zao (by decide)]; rfl
 ·have:(a.Node != b.Node) = false:=by simp; omega
  rw [e,this,zkk]
  rcases zdo a.Seq b.Seq with ⟨h',e⟩ | ⟨h',e⟩ | ⟨h',e⟩
  ·rw [e,zao (by decide)]; simp [h']
  ·rw [e,zkk]
   have h1:¬ a.Seq < b.Seq:=by omega
   have h2:¬ b.Seq < a.Seq:=by omega
   simp only [h1,h2,decide_false,cond_false]
   unfold orL orL
   split <;> simp_all
  ·rw [e,zao (by decide)]
   have h1:¬ a.Seq < b.Seq:=by omega
   simp [h',h1]
 ·have:(a.Node != b.Node) = true:=by simp; omega
  rw [e,this,zao (by decide)]; rfl
theorem zbA (a b:ID):(zaA a b < 0 ↔ a.Node < b.Node ∨ (a.Node = b.Node/\(a.Seq < b.Seq ∨ (a.Seq = b.Seq/\a.Off < b.Off))))/\(zaA a b = 0 ↔ a.Node = b.Node/\a.Seq = b.Seq/\a.Off = b.Off):=by
 unfold zaA
 have e0:orL [] = 0:=rfl
 rcases zdo a.Node b.Node with ⟨h,e⟩ | ⟨h,e⟩ | ⟨h,e⟩
 ·rw [e,zao (by decide)]; omega
 ·rw [e,zkk]
  rcases zdo a.Seq b.Seq with ⟨h',e⟩ | ⟨h',e⟩ | ⟨h',e⟩
  ·rw [e,zao (by decide)]; omega
  ·rw [e,zkk]
   rcases zdo a.Off b.Off with ⟨h'',e⟩ | ⟨h'',e⟩ | ⟨h'',e⟩
   ·rw [e,zao (by decide)]; omega
   ·rw [e,zkk,e0]; omega
   ·rw [e,zao (by decide)]; omega
  ·rw [e,zao (by decide)]; omega
 ·rw [e,zao (by decide)]; omega
theorem zcB {a b c:Mrk} (h1:zap a b < 0) (h2:zap b c < 0):zap a c < 0:=by
 have a1:=zbA a.ID b.ID
 have a2:=zbA b.ID c.ID
 have a3:=zbA a.ID c.ID
 unfold zap at h1 h2 ⊢
 rw [a1.1] at h1
 rw [a2.1] at h2
 rw [a3.1]
 clear a1 a2 a3
 omega
def okI (id:ID):Prop:=(1 <= id.Node/\id.Node <= 16)/\id.Seq <= 1099511627776/\0 <= id.Off/\id.Off <= 19999
instance (d:ID):Decidable (okI d):=by unfold okI; infer_instance
def okU (u:Int):Prop:=0 <= u/\u <= 1099512676352
instance (u:Int):Decidable (okU u):=by unfold okU; infer_instance
def okD (d:Mrk):Prop:=okI d.ID/\okU d.Until
instance (d:Mrk):Decidable (okD d):=by unfold okD; infer_instance
theorem zpt (a b c d e f:Int):yV [⟨a,b,c⟩,⟨d,e,f⟩] = some (decide ((b <= a/\a <= c)/\e <= d/\d <= f)):=by
 refine W.eq ?_
 unfold yV
 refine ZG (fun i:Int=>i = 0 ∨ (i = 1/\(b <= a/\a <= c)) ∨ (i = 2/\(b <= a/\a <= c)/\e <= d/\d <= f)) (fun i=>2 - i.toNat) ?_ (.inl rfl)
 rintro i (rfl | ⟨rfl,h1⟩ | ⟨rfl,h1⟩)
 ·refine yh (fun _=>?_) fun hi=>absurd (by simp) hi
  refine Zr (by omega) (by simp) fun x hx=>?_
  have:x = ⟨a,b,c⟩:=by simpa using hx.symm
  subst this
  refine yh (fun h=>yy (yk (Eq.symm (decide_eq_false (by dsimp only at h; omega))))) fun h2=>?_
  refine yh (fun h=>yy (yk (Eq.symm (decide_eq_false (by dsimp only at h; omega))))) fun h3=>?_
  dsimp only at h2 h3
  exact ZK fun j hj=>qk ⟨.inr (.inl ⟨by omega,by omega⟩),by omega⟩
 ·refine yh (fun _=>?_) fun hi=>absurd (by simp) hi
  refine Zr (by omega) (by simp) fun x hx=>?_
  have:x = ⟨d,e,f⟩:=by simpa using hx.symm
  subst this
  refine yh (fun h=>yy (yk (Eq.symm (decide_eq_false (by dsimp only at h; omega))))) fun h2=>?_
  refine yh (fun h=>yy (yk (Eq.symm (decide_eq_false (by dsimp only at h; omega))))) fun h3=>?_
  dsimp only at h2 h3
  exact ZK fun j hj=>qk ⟨.inr (.inr ⟨by omega,by omega⟩),by omega⟩
 ·refine yh (fun hi=>absurd hi (by simp)) fun _=>?_
  exact yy (yk (Eq.symm (decide_eq_true h1)))
theorem zhL (id:ID):yu id = some (if okI id then 0 else 2):=by
 unfold yu
 rw [zpt]
 simp only [zug,br]
 by_cases h1:(1 <= id.Node/\id.Node <= 16)/\0 <= id.Off/\id.Off <= 19999
 ·by_cases h2:1099511627776 < id.Seq
  ·have:¬ okI id:=fun h=>by unfold okI at h; omega
   rw [if_neg this]; simp [h1,h2]
  ·have:okI id:=by unfold okI; omega
   rw [if_pos this]; simp [h1,h2]
 ·have:¬ okI id:=fun h=>by unfold okI at h; omega
  rw [if_neg this]; simp only [decide_eq_false h1,Bool.not_false,cond_true]
theorem zdp (d:Mrk):yS d = some (if okD d then 0 else 2):=by
 unfold yS
 rw [zhL]
 simp only [zug,br]
 by_cases h1:okI d.ID
 ·rw [if_pos h1]
  by_cases h2:d.Until < 0
  ·have:¬ okD d:=fun h=>by have:=h.2; unfold okU at this; omega
   rw [if_neg this]; simp [h2]
  ·by_cases h3:1099512676352 < d.Until
   ·have:¬ okD d:=fun h=>by have:=h.2; unfold okU at this; omega
    rw [if_neg this]; simp [h2,h3]
   ·have:okD d:=⟨h1,by unfold okU; omega⟩
    rw [if_pos this]; simp [h2,h3]
 ·rw [if_neg h1,if_neg (fun h:okD d=>h1 h.1)]; simp
theorem zri (id:ID):zX id = some (decide (okI id)):=by
 unfold zX okI
 simp only [br]
 by_cases h1:1 <= id.Node <;> by_cases h2:id.Node <= 16 <;> by_cases h3:id.Seq <= 1099511627776 <;> by_cases h4:0 <= id.Off <;> simp [h1,h2,h3,h4]
 omega
theorem zrj (u:Int):zY u = some (decide (okU u)):=by
 unfold zY okU
 simp only [br]
 by_cases h1:0 <= u <;> simp [h1]
theorem zf9 (l:List Mrk):zG l = zz l:=by
 unfold zG zz
 congr 1
 congr 1
 funext i
 cases hx:idx l i with
 | none=>simp only [Option.bind_none]
 | some x =>
  simp only [zug,zdp,zri,zrj,hx]
  by_cases h1:okI x.ID
  ·by_cases h2:okU x.Until
   ·simp only [show okD x from ⟨h1,h2⟩,h1,h2,if_true,decide_true,Bool.not_true,br,cond_false,bne_self_eq_false]
    cases hj:Yb .i64 i 1 with
    | none=>simp only [Option.bind_none]
    | some j =>
     simp only [zug]
     cases hy:idx l j with
     | none=>simp only [Option.bind_none]
     | some y=>simp only [zug,zrh,zbz]
   ·have:¬ okD x:=fun h=>h2 h.2
    simp [this,h1,h2,br]
  ·have:¬ okD x:=fun h=>h1 h.1
   simp [this,h1,br]
structure Ok (l:List Mrk):Prop where
 get:∀ {i j:Nat} {x y:Mrk},l[i]? = some x->l[j]? = some y->i < j->zap x y < 0
theorem Ok.of {l:List Mrk} (h:∀ (i:Nat) x y,l[i]? = some x->l[i + 1]? = some y->zap x y < 0):Ok l:=by
 refine ⟨fun {i j x y} hx hy hij=>?_⟩
 obtain ⟨k,rfl⟩:∃ k,j = i + 1 + k:=⟨j - (i + 1),by omega⟩
 clear hij
 induction k generalizing y with
 | zero=>exact h i x y hx hy
 | succ k ih =>
  have hlt:=(List.getElem?_eq_some_iff.1 hy).1
  have hz:=List.getElem?_eq_getElem (show i + 1 + k < l.length by omega)
  exact zcB (ih hz) (h (i + 1 + k) _ y hz hy)
theorem zrk {l:List Mrk} (hl:l.length <= 1000):W (zz l) fun r=>r.1 ≠ 0 ∨ (r = (0,0)/\Ok l):=by
 unfold zz
 refine ZG (fun i:Int=>(0 <= i/\i <= l.length)/\∀ (k:Nat) x y,k + 1 < i.toNat->l[k]? = some x->l[k + 1]? = some y->zap x y < 0) (fun i=>l.length - i.toNat) ?_ ⟨⟨by omega,by omega⟩,fun k x y hk=>by simp at hk⟩
 rintro i ⟨⟨h0,h1⟩,h2⟩
 refine yh (fun hi=>?_) fun hi=>yy (yk (.inr ⟨rfl,Ok.of fun k x y hx hy=>h2 k x y ?_ hx hy⟩))
 ·refine Zr h0 hi fun x hx=>?_
  rw [zdp]
  refine Yr ?_
  by_cases ho:okD x
  ·rw [if_pos ho]
   refine yh (fun h=>absurd rfl h) fun _=>?_
   refine yh (fun hp=>?_) fun hp=>?_
   ·refine ZK fun j hj=>?_
    refine Zr (by omega) (by omega) fun y hy=>?_
    rw [zbz]
    refine Yr ?_
    refine yh (fun h=>yy (yk (.inl (by simp)))) fun hc=>?_
    refine ZK fun j' hj'=>qk ⟨⟨⟨by omega,by omega⟩,fun k u v hk hu hv=>?_⟩,by omega⟩
    by_cases hkk:k + 1 < i.toNat
    ·exact h2 k u v hkk hu hv
    ·have e1:k + 1 = i.toNat:=by omega
     have e2:k = j.toNat:=by omega
     rw [e1,hx] at hv
     rw [e2,hy] at hu
     cases hv
     cases hu
     change zaA _ _ < 0
     omega
   ·refine ZK fun j' hj'=>qk ⟨⟨⟨by omega,by omega⟩,fun k u v hk hu hv=>?_⟩,by omega⟩
    omega
  ·rw [if_neg ho]
   refine yh (fun _=>yy (yk (.inl (by simp)))) fun h=>absurd (by decide) h
 ·have:=(List.getElem?_eq_some_iff.1 hy).1
  omega
theorem zm5 (l:List Mrk) (hl:l.length <= 1000):zK l = some l:=by
 unfold zK
 have:app 32 ([]:List Mrk) l = some l:=by unfold app; rw [if_pos (by simp; omega)]; rfl
 rw [this]
 cases l with
 | nil=>unfold zoh zje; simp
 | cons c l=>rfl
theorem ztk {a:Int} (h0:0 <= a) (h1:a <= 4000):IntKind.wrap .u64 a = a:=zqU a ⟨h0,by omega⟩
theorem ztl {a:Int} (h0:0 <= a) (h1:a <= 4000):IntKind.wrap .i64 a = a:=zfd a ⟨by omega,by omega⟩
theorem ztQ {a:Int} (h0:0 <= a):zrF .u64 a 1 = some (a / 2):=by
 unfold zrF
 rw [if_pos (by omega),Int.fdiv_eq_ediv_of_nonneg _ (by decide)]
 rfl
def At (l:List Mrk) (d:Mrk) (p:Nat):Prop:=p <= l.length/\(∀ k x,k < p->l[k]? = some x->zap x d < 0)/\(∀ k x,p <= k->l[k]? = some x->¬ zap x d < 0)
theorem At.uniq {l:List Mrk} {d:Mrk} {p q:Nat} (hp:At l d p) (hq:At l d q):p = q:=by
 obtain ⟨p1,p2,p3⟩:=hp
 obtain ⟨q1,q2,q3⟩:=hq
 rcases Nat.lt_trichotomy p q with h | h | h
 ·have hx:=List.getElem?_eq_getElem (show p < l.length by omega)
  exact absurd (q2 p _ h hx) (p3 p _ (Nat.le_refl _) hx)
 ·exact h
 ·have hx:=List.getElem?_eq_getElem (show q < l.length by omega)
  exact absurd (p2 q _ h hx) (q3 q _ (Nat.le_refl _) hx)
theorem zpu {l:List Mrk} {d:Mrk} (h:Ok l) (hl:l.length <= 1000):W (zo (l,d.ID)) fun r =>
  ∃ p:Nat,r.1 = p/\At l d p/\((r.2 = true/\∃ x,l[p]? = some x/\zap x d = 0) ∨ (r.2 = false/\∀ x,l[p]? = some x->zap x d ≠ 0)):=by
 unfold zo
 refine ZG (fun s:Int × Int=>(0 <= s.1/\s.1 <= s.2/\s.2 <= l.length)/\(∀ k x,k < s.1.toNat->l[k]? = some x->zap x d < 0)/\(∀ k x,s.2.toNat <= k->l[k]? = some x->¬ zap x d < 0)) (fun s=>s.2.toNat - s.1.toNat) ?_ ⟨⟨by simp,by simp,by simp⟩,fun k x hk=>by simp at hk,fun k x hk hx=>by
  have:=(List.getElem?_eq_some_iff.1 hx).1
  simp at hk
  omega⟩
 rintro ⟨i,j⟩ ⟨⟨h0,h1,h2⟩,h3,h4⟩
 dsimp only at h0 h1 h2 h3 h4 ⊢
 refine yh (fun hij=>?_) fun hij=>?_
 ·refine ZK fun c hc=>?_
  rw [ztk (a:=c) (by omega) (by omega)]
  refine yJ (ztQ (a:=c) (by omega)) ?_
  have hb:0 <= c / 2/\i <= c / 2/\c / 2 < j:=by omega
  generalize c / 2 = m at hb ⊢
  rw [ztl (a:=m) (by omega) (by omega)]
  refine Zr (by omega) (by omega) fun x hx=>?_
  refine yJ (zps x d.ID) ?_
  refine yh (fun hlt=>?_) fun hlt=>?_
  ·refine ZK fun m' hm'=>qk ⟨⟨⟨by dsimp only; omega,by dsimp only; omega,h2⟩,fun k y hk hy=>?_,h4⟩,by dsimp only; omega⟩
   dsimp only at hk
   rcases Nat.lt_or_ge k m.toNat with q | q
   ·exact zcB (h.get hy hx q) hlt
   ·have:k = m.toNat:=by omega
    subst this
    rw [hy] at hx
    cases hx
    exact hlt
  ·refine qk ⟨⟨⟨h0,by dsimp only; omega,by dsimp only; omega⟩,h3,fun k y hk hy=>?_⟩,by dsimp only; omega⟩
   dsimp only at hk
   rcases Nat.lt_or_ge m.toNat k with q | q
   ·exact fun hc=>hlt (zcB (h.get hx hy q) hc)
   ·have:k = m.toNat:=by omega
    subst this
    rw [hy] at hx
    cases hx
    exact hlt
 ·have hji:j = i:=by omega
  subst hji
  refine yy ?_
  refine yh (fun hlt=>?_) fun hlt=>?_
  ·refine Zr (by omega) (by omega) fun x hx=>?_
   refine yJ (zps x d.ID) (yk ⟨j.toNat,by dsimp only; omega,⟨by omega,h3,h4⟩,?_⟩)
   by_cases hr0:zap x d = 0
   ·exact .inl ⟨by simp [hr0],x,hx,hr0⟩
   ·refine .inr ⟨by simpa using hr0,fun y hy=>?_⟩
    rw [hy] at hx
    cases hx
    exact hr0
  ·refine yk ⟨j.toNat,by dsimp only; omega,⟨by omega,h3,h4⟩,.inr ⟨rfl,fun y hy=>?_⟩⟩
   have:=(List.getElem?_eq_some_iff.1 hy).1
   omega
def FND (l:List Mrk) (d:Mrk) (r:Int × Bool):Prop:=∃ p:Nat,r.1 = p/\At l d p/\((r.2 = true/\∃ x,l[p]? = some x/\zap x d = 0) ∨ (r.2 = false/\∀ x,l[p]? = some x->zap x d ≠ 0))
theorem FND.det {l:List Mrk} {d:Mrk} {r r':Int × Bool} (h:FND l d r) (h':FND l d r'):r = r':=by
 obtain ⟨p,h1,h2,h3⟩:=h
 obtain ⟨q,k1,k2,k3⟩:=h'
 have:=h2.uniq k2
 subst this
 refine Prod.ext (by rw [h1,k1]) ?_
 rcases h3 with ⟨a,x,b,c⟩ | ⟨a,b⟩ <;> rcases k3 with ⟨a',x',b',c'⟩ | ⟨a',b'⟩
 ·rw [a,a']
 ·exact absurd c (b' x b)
 ·exact absurd c' (b x' b')
 ·rw [a,a']
theorem zpv {l:List Mrk} {d:Mrk} (h:Ok l) (hl:l.length <= 1000):W (qJ (l,d.ID)) (FND l d):=by
 unfold qJ
 refine Y8 (zpu (d:=d) h hl) fun r hr=>?_
 obtain ⟨r1,r2⟩:=r
 exact yk hr
theorem zrl {l:List Mrk} (hl:l.length <= 1000):∃ c1 c2:Int,zz l = some (c1,c2)/\(c1 = 0->Ok l):=by
 obtain ⟨⟨c1,c2⟩,h1,h2⟩:=zrk hl
 refine ⟨c1,c2,h1,fun h=>?_⟩
 rcases h2 with h2 | h2
 ·exact absurd h h2
 ·exact h2.2
def ztR (l:List Mrk) (d:Mrk) (c1:Int) (r:List Mrk × Int):Prop:=(c1 ≠ 0/\r = ([],c1)) ∨ (c1 = 0/\¬ okD d/\r = ([],2)) ∨
 (c1 = 0/\okD d/\∃ q,FND l d q/\r = if q.2 then ([],9) else (l.take q.1.toNat++[d]++l.drop q.1.toNat,0))
theorem ztm {l:List Mrk} {d:Mrk} (hl:l.length <= 1000) {c1 c2:Int} (hc:zz l = some (c1,c2)) (hok:c1 = 0->Ok l):W (ZX (l,d.ID,d.Until)) (ztR l d c1):=by
 unfold ZX
 refine yJ hc ?_
 dsimp only
 refine yh (fun hne=>yk (.inl ⟨hne,rfl⟩)) fun heq=>?_
 have heq:c1 = 0:=by simpa using heq
 rw [zdp]
 refine Yr ?_
 by_cases ho:okD d
 ·have ho':okD ⟨d.ID,d.Until⟩:=ho
  rw [if_pos ho']
  refine yh (fun h=>absurd rfl h) fun _=>?_
  refine Y8 (zpv (d:=d) (hok heq) hl) fun r hr=>?_
  obtain ⟨r1,r2⟩:=r
  dsimp only
  cases r2 with
  | true=>exact Q0 (yk (.inr (.inr ⟨heq,ho,_,hr,rfl⟩)))
  | false =>
   refine zeW ?_
   rw [zhK,zhK]
   refine yJ (zm5 l hl) ?_
   have hr':=hr
   obtain ⟨p,hp,hat,_⟩:=hr
   dsimp only at hp
   subst hp
   have hpl:=hat.1
   have hi:zaS l (p:Int) [⟨d.ID,d.Until⟩] = some (l.take p++[d]++l.drop p):=by
    unfold zaS
    dsimp only
    rw [if_pos (by omega)]
    rfl
   exact yJ hi (yk (.inr (.inr ⟨heq,ho,_,hr',rfl⟩)))
 ·have ho':¬ okD ⟨d.ID,d.Until⟩:=ho
  rw [if_neg ho']
  exact yh (fun _=>yk (.inr (.inl ⟨heq,ho,rfl⟩))) fun h=>absurd (by decide) h
def ztS (l:List Mrk) (d:Mrk) (c1:Int) (r:Bool × Int):Prop:=(c1 ≠ 0/\r = (false,c1)) ∨ (c1 = 0/\∃ q,FND l d q/\r = (q.2,0))
theorem ztn {l:List Mrk} {d:Mrk} (hl:l.length <= 1000) {c1 c2:Int} (hc:zz l = some (c1,c2)) (hok:c1 = 0->Ok l):W (ZY (l,d.ID)) (ztS l d c1):=by
 unfold ZY
 refine yJ hc ?_
 dsimp only
 refine yh (fun hne=>yk (.inl ⟨hne,rfl⟩)) fun heq=>?_
 have heq:c1 = 0:=by simpa using heq
 exact Y8 (zpv (d:=d) (hok heq) hl) fun r hr=>yk (.inr ⟨heq,_,hr,rfl⟩)
theorem zpw (a:List Mrk) (ha:a.length <= 1001):W (zd (a,a)) fun r=>r = true:=by
 unfold zd
 refine yh (fun h=>absurd rfl h) fun _=>?_
 refine ZG (fun i:Int=>0 <= i/\i <= a.length) (fun i=>a.length - i.toNat) ?_ ⟨by omega,by omega⟩
 rintro i ⟨h0,h1⟩
 refine yh (fun hi=>?_) fun hi=>yy (yk rfl)
 refine Zr h0 hi fun x hx=>?_
 refine Zr h0 hi fun y hy=>?_
 have:y = x:=by simpa [hx] using hy.symm
 subst this
 simp only [beq_self_eq_true,Bool.and_self]
 refine Qx (Q0 ?_)
 refine ZK fun j hj=>qk ⟨⟨by omega,by omega⟩,by omega⟩
theorem zsx (l:List Mrk) (now:Int) (hl:l.length <= 1000):W (z7 l now) fun r=>r = (l.filter (fun d=>!decide (d.Until <= now)),now) :=
 zsk (F:=yL) (p:=fun d=>decide (d.Until <= now)) (fun d=>rfl) _ l hl
def FGT (l:List Mrk) (now c1:Int):List Mrk × Int × Int:=if c1 ≠ 0 then ([],0,c1) else (l.filter (fun d=>!decide (d.Until <= now)),(l.length:Int) - (l.filter (fun d=>!decide (d.Until <= now))).length,0)
theorem zpx {l:List Mrk} {now:Int} (hl:l.length <= 1000) {c1 c2:Int} (hc:zz l = some (c1,c2)):W (qz (l,now)) fun r=>r = FGT l now c1:=by
 unfold qz FGT
 refine yJ hc ?_
 dsimp only
 refine yh (fun h=>yk (by rw [if_pos h])) fun h=>?_
 refine yJ (zm5 l hl) ?_
 refine Y8 (zsx l now hl) fun r hr=>?_
 subst hr
 have:=List.length_filter_le (fun d:Mrk=>!decide (d.Until <= now)) l
 dsimp only
 refine ZK fun c hc=>yk ?_
 rw [if_neg h,hc]
theorem zlM:zz [⟨⟨2,5,0⟩,90⟩] = some (0,0):=by
 refine W.eq ?_
 unfold zz
 refine ZG (fun i:Int=>i = 0 ∨ i = 1) (fun i=>1 - i.toNat) ?_ (.inl rfl)
 rintro i (rfl | rfl)
 ·refine yh (fun _=>?_) fun h=>absurd (by simp) h
  refine Zr (by omega) (by simp) fun x hx=>?_
  have:x = ⟨⟨2,5,0⟩,90⟩:=by simpa using hx.symm
  subst this
  rw [zdp,if_pos (by decide)]
  refine Yr ?_
  refine yh (fun h=>absurd rfl h) fun _=>?_
  refine yh (fun h=>absurd h (by decide)) fun _=>?_
  exact ZK fun j hj=>qk ⟨.inr (by omega),by omega⟩
 ·refine yh (fun h=>absurd h (by simp)) fun _=>?_
  exact yy (yk rfl)
theorem zlN:zz two = some (0,0):=by
 refine W.eq ?_
 unfold zz two
 refine ZG (fun i:Int=>i = 0 ∨ i = 1 ∨ i = 2) (fun i=>2 - i.toNat) ?_ (.inl rfl)
 rintro i (rfl | rfl | rfl)
 ·refine yh (fun _=>?_) fun h=>absurd (by simp) h
  refine Zr (by omega) (by simp) fun x hx=>?_
  have:x = ⟨⟨2,3,0⟩,50⟩:=by simpa using hx.symm
  subst this
  rw [zdp,if_pos (by decide)]
  refine Yr ?_
  refine yh (fun h=>absurd rfl h) fun _=>?_
  refine yh (fun h=>absurd h (by decide)) fun _=>?_
  exact ZK fun j hj=>qk ⟨.inr (.inl (by omega)),by omega⟩
 ·refine yh (fun _=>?_) fun h=>absurd (by simp) h
  refine Zr (by omega) (by simp) fun x hx=>?_
  have:x = ⟨⟨2,5,0⟩,90⟩:=by simpa using hx.symm
  subst this
  rw [zdp,if_pos (by decide)]
  refine Yr ?_
  refine yh (fun h=>absurd rfl h) fun _=>?_
  refine yh (fun _=>?_) fun h=>absurd (by decide) h
  refine ZK fun j hj=>?_
  have:j = 0:=by omega
  subst this
  refine Zr (by omega) (by simp) fun y hy=>?_
  have:y = ⟨⟨2,3,0⟩,50⟩:=by simpa using hy.symm
  subst this
  rw [zbz]
  refine Yr ?_
  refine yh (fun h=>absurd h (by decide)) fun _=>?_
  exact ZK fun j hj=>qk ⟨.inr (.inr (by omega)),by omega⟩
 ·refine yh (fun h=>absurd h (by simp)) fun _=>?_
  exact yy (yk rfl)
theorem ok1:Ok [⟨⟨2,5,0⟩,90⟩]:=by
 obtain ⟨c1,c2,hc,h⟩:=zrl (l:=[⟨⟨2,5,0⟩,90⟩]) (by simp)
 rw [zlM] at hc
 cases hc
 exact h rfl
theorem ztT {q:Int × Bool} (h:FND [⟨⟨2,5,0⟩,90⟩] ⟨⟨2,3,0⟩,50⟩ q):q = (0,false):=by
 refine h.det ⟨0,rfl,⟨by simp,fun k x hk=>by omega,fun k x _ hx=>?_⟩,.inr ⟨rfl,fun x hx=>?_⟩⟩
 ·have hk:=(List.getElem?_eq_some_iff.1 hx).1
  have:k = 0:=by simp at hk; exact hk
  subst this
  have:x = ⟨⟨2,5,0⟩,90⟩:=by simpa using hx.symm
  subst this; decide
 ·have:x = ⟨⟨2,5,0⟩,90⟩:=by simpa using hx.symm
  subst this; decide
theorem ztU {q:Int × Bool} {u:Int} (h:FND [⟨⟨2,5,0⟩,90⟩] ⟨⟨2,5,0⟩,u⟩ q):q = (0,true):=by
 refine h.det ⟨0,rfl,⟨by simp,fun k x hk=>by omega,fun k x _ hx=>?_⟩,.inl ⟨rfl,_,rfl,?_⟩⟩
 ·have hk:=(List.getElem?_eq_some_iff.1 hx).1
  have:k = 0:=by simp at hk; exact hk
  subst this
  have:x = ⟨⟨2,5,0⟩,90⟩:=by simpa using hx.symm
  subst this; exact show ¬ zaA ⟨2,5,0⟩ ⟨2,5,0⟩ < 0 by decide
 ·exact show zaA ⟨2,5,0⟩ ⟨2,5,0⟩ = 0 by decide
open Go Go.Eng Go.RowKit Go.X Go.Seq
theorem zco {β:Type} {s t:List UInt8} {f:List UInt8->Option β} {Q:β->Prop} (h:s.length + t.length <= 100000) (k:W (f (s++t)) Q):W ((zaF s t).bind f) Q:=by
 unfold zaF
 rw [if_pos (Nat.le_trans h (by decide))]
 exact k
theorem zm6 {s t:List UInt8} (h:s.length + t.length <= 100000):zaF s t = some (s++t):=by
 unfold zaF
 rw [if_pos (Nat.le_trans h (by decide))]
theorem zm7:∀ (k:Nat) (n:Int),0 <= n->n < 10 ^ (k + 1)->(dec n).length <= k + 1
 | 0,n,h0,h1=>by
  unfold dec
  rw [Go.Lib.decDigits,dif_pos (by omega)]
  simp
 | k + 1,n,h0,h1=>by
  unfold dec
  by_cases h:n.toNat < 10
  ·rw [Go.Lib.decDigits,dif_pos h]; simp
  ·rw [Go.Lib.decDigits,dif_neg h]
   have e:n.toNat / 10 = (n / 10).toNat:=by omega
   have:=zm7 k (n / 10) (by omega) (by rw [Int.pow_succ] at h1; omega)
   unfold dec at this
   rw [e,zuh]
   simp; omega
theorem qV {n:Int} (h0:0 <= n) (h1:n <= 9223372036854775807):(dec n).length <= 20:=zm7 19 n h0 (by omega)
theorem zga {n:Int} (h0:0 <= n) (h1:n <= 9223372036854775807):strconv_Itoa n = some (dec n):=by
 unfold strconv_Itoa znK
 rw [if_pos ⟨by omega,h1⟩]
 unfold Go.Lib.itoa dec
 rw [if_neg (by omega)]
theorem zsy {n:Int} (h0:0 <= n) (h1:n < 18446744073709551616):yx (n,10) = some (dec n):=by
 unfold yx dec
 dsimp only
 rw [if_pos ⟨h0,h1,rfl⟩]
def idT (d:ID):List UInt8:=dec d.Node++[46]++dec d.Seq++[46]++dec d.Off
theorem zrm {d:ID} (h:okI d) (hs:0 <= d.Seq):(idT d).length <= 62:=by
 unfold okI at h
 have h1:=qV (n:=d.Node) (by omega) (by omega)
 have h2:=qV (n:=d.Seq) hs (by omega)
 have h3:=qV (n:=d.Off) (by omega) (by omega)
 unfold idT
 simp only [zuh,List.length_cons,List.length_nil]
 omega
theorem zto {d:ID} (h:okI d) (hs:0 <= d.Seq):yQ d = some (idT d,0):=by
 have hc:yu d = some 0:=by rw [zhL,if_pos h]
 unfold okI at h
 have h1:=qV (n:=d.Node) (by omega) (by omega)
 have h2:=qV (n:=d.Seq) hs (by omega)
 have h3:=qV (n:=d.Off) (by omega) (by omega)
 unfold yQ
 rw [hc]
 simp only [zug]
 rw [show ((0:Int) != 0) = false from rfl]
 show (strconv_Itoa d.Node).bind _ = _
 rw [zga (by omega) (by omega)]
 simp only [zug]
 rw [zm6 (by simp; omega)]
 simp only [zug]
 rw [zsy hs (by omega)]
 simp only [zug]
 rw [zm6 (by simp; omega)]
 simp only [zug]
 rw [zm6 (by simp; omega)]
 simp only [zug]
 rw [zga (by omega) (by omega)]
 simp only [zug]
 rw [zm6 (by simp; omega)]
 rfl
theorem zrT {n:Int} (h0:0 <= n) (h1:n < 10):zab ([IntKind.wrap .u8 (48 + n)]:List Int) = some [UInt8.ofNat (48 + n.toNat)]:=by
 rcases (by omega:n = 0 ∨ n = 1 ∨ n = 2 ∨ n = 3 ∨ n = 4 ∨ n = 5 ∨ n = 6 ∨ n = 7 ∨ n = 8 ∨ n = 9) with rfl | rfl | rfl | rfl | rfl | rfl | rfl | rfl | rfl | rfl <;> rfl
theorem zsz (n:Int):dec n ≠ []:=by
 obtain ⟨_,c,l,h,_⟩:=zmU (n.toNat + 1) n.toNat (by omega)
 unfold dec
 rw [h]; simp
theorem zm8 {a b:Int} (h0:0 <= a) (h1:a < 18446744073709551616) (hb:0 < b):zkO .u64 a b = some (a / b):=by
 have e:a.tdiv b = a / b:=Int.tdiv_eq_ediv_of_nonneg h0
 have g0:0 <= a / b:=Int.ediv_nonneg h0 (by omega)
 have g1:a / b <= a:=Int.ediv_le_self _ h0
 unfold zkO
 rw [e,if_pos ⟨by omega,ziG g0 (by omega)⟩]
theorem zdq {n:Int} (h0:0 <= n) (h1:n <= 9223372036854775807):zw n = some (dec n):=by
 have h20:=qV h0 h1
 refine W.eq ?_
 unfold zw
 refine ZG (fun s:Int × List UInt8=>0 <= s.1/\s.1 <= 9223372036854775807/\s.2.length <= 20/\((s.2 = []/\s.1 = n) ∨ (s.2 ≠ []/\s.1 = 0/\s.2 = dec n) ∨ (0 < s.1/\dec s.1++s.2 = dec n))) (fun s=>s.1.toNat * 2 + (if s.2 = [] then 1 else 0)) ?_ ⟨h0,h1,by simp,.inl ⟨rfl,rfl⟩⟩
 rintro ⟨m,out⟩ ⟨i1,i2,i3,i4⟩
 dsimp only at i1 i2 i3 i4 ⊢
 have step:∀ m:Int,0 <= m->(0 < m ∨ out = [])->dec m++out = dec n->(m < 10->[UInt8.ofNat (48 + (m % 10).toNat)]++out = dec n)/\(¬ m < 10->dec (m / 10)++([UInt8.ofNat (48 + (m % 10).toNat)]++out) = dec n):=by
  intro m hm _ hd
  refine ⟨fun h=>?_,fun h=>?_⟩
  ·rw [<- hd]
   unfold dec
   rw [zmT (by omega),show (m % 10).toNat = m.toNat from by omega]
  ·rw [<- hd]
   unfold dec
   rw [zpg (n:=m.toNat) (by omega),show (m / 10).toNat = m.toNat / 10 from by omega,show (m % 10).toNat = m.toNat % 10 from by omega,List.append_assoc]
 refine yh (fun hm=>?_) fun hm=>?_
 ·have hd:dec m++out = dec n:=by
   rcases i4 with ⟨a,b⟩ | ⟨_,b,_⟩ | ⟨_,b⟩
   ·rw [a,b,List.append_nil]
   ·omega
   ·exact b
  have hlen:(dec m).length + out.length <= 20:=by rw [<- zuh,hd]; exact h20
  have hne:1 <= (dec m).length:=List.length_pos_iff.2 (zsz m)
  obtain ⟨s1,s2⟩:=step m (by omega) (.inl hm) hd
  refine zr7 (by omega) (by omega) ?_
  rintro _ rfl
  refine yJ (ziH (by omega) (by omega)) ?_
  refine yJ (zrT (by omega) (by omega)) ?_
  refine zco (by simp; omega) ?_
  refine yJ (zm8 (by omega) (by omega) (by omega)) ?_
  refine qk ⟨⟨by dsimp only; omega,by dsimp only; omega,by simp; omega,?_⟩,?_⟩
  ·dsimp only
   by_cases h:m < 10
   ·exact .inr (.inl ⟨by simp,by omega,s1 h⟩)
   ·exact .inr (.inr ⟨by omega,s2 h⟩)
  ·dsimp only
   rw [if_neg (by simp)]
   split <;> omega
 ·have hm0:m = 0:=by omega
  subst hm0
  refine yh (fun ho=>?_) fun ho=>?_
  ·subst ho
   have hd:dec 0++[] = dec n:=by
    rcases i4 with ⟨_,b⟩ | ⟨a,_⟩ | ⟨a,_⟩
    ·rw [<- b,List.append_nil]
    ·exact absurd rfl a
    ·omega
   obtain ⟨s1,_⟩:=step 0 (by omega) (.inr rfl) hd
   refine zr7 (by omega) (by omega) ?_
   rintro _ rfl
   refine yJ (ziH (by omega) (by omega)) ?_
   refine yJ (zrT (by omega) (by omega)) ?_
   refine zco (by simp) ?_
   refine yJ (zm8 (by omega) (by omega) (by omega)) ?_
   refine qk ⟨⟨by dsimp only; omega,by dsimp only; omega,by simp,?_⟩,?_⟩
   ·exact .inr (.inl ⟨by simp,by omega,s1 (by omega)⟩)
   ·simp
  ·refine yy (yk ?_)
   rcases i4 with ⟨a,_⟩ | ⟨_,_,a⟩ | ⟨a,_⟩
   ·exact absurd a ho
   ·exact a
   ·omega
def mkT (x:Mrk):List UInt8:=mkB (idT x.ID) (dec x.Until)
def txR:List Mrk->List UInt8->List UInt8 × Int
 | [],acc=>(acc,0)
 | x :: xs,acc=>if 20000 < (acc++mkT x).length then ([],4) else txR xs (acc++mkT x)
theorem zm9 {x:Mrk} (h:okD x) (hs:0 <= x.ID.Seq):(mkT x).length <= 84:=by
 have h1:=zrm h.1 hs
 have h2:=h.2
 unfold okU at h2
 have h3:=qV (n:=x.Until) h2.1 (by omega)
 unfold mkT mkB
 simp only [zuh,List.length_cons,List.length_nil]
 omega
theorem zpy:∀ (l:List Mrk) (acc:List UInt8),(∀ x ∈ l,okD x/\0 <= x.ID.Seq)->txS yQ strconv_Itoa l acc = some (txR l acc)
 | [],acc,_=>rfl
 | x :: xs,acc,h=>by
  obtain ⟨h1,h2⟩:=h x (List.mem_cons_self ..)
  have h3:=h1.2
  unfold okU at h3
  have h4:=zm9 h1 h2
  rw [txS,zto h1.1 h2]
  simp only [zug]
  rw [zga h3.1 (by omega)]
  simp only [zug]
  show (if (mkT x).length <= 1000000 then (if 20000 < (acc++mkT x).length then some ([],4) else txS yQ strconv_Itoa xs (acc++mkT x)) else none) = _
  rw [if_pos (by omega),txR]
  split
  ·rfl
  ·exact zpy xs _ fun y hy=>h y (List.mem_cons_of_mem _ hy)
structure Vd (l:List Mrk):Prop where
 ok:∀ (k:Nat) x,l[k]? = some x->okD x
 lt:∀ (k:Nat) x y,l[k]? = some x->l[k + 1]? = some y->zap x y < 0
theorem Vd.nil:Vd []:=⟨fun k x h=>by simp at h,fun k x y h=>by simp at h⟩
theorem zrn {l:List Mrk} (hl:l.length <= 100000):W (zz l) fun r=>r.1 ≠ 0 ∨ (r = (0,0)/\Vd l):=by
 unfold zz
 refine ZG (fun i:Int=>(0 <= i/\i <= l.length)/\(∀ (k:Nat) x,k < i.toNat->l[k]? = some x->okD x)/\∀ (k:Nat) x y,k + 1 < i.toNat->l[k]? = some x->l[k + 1]? = some y->zap x y < 0) (fun i=>l.length - i.toNat) ?_ ⟨⟨by omega,by omega⟩,fun k x hk=>by simp at hk,fun k x y hk=>by simp at hk⟩
 rintro i ⟨⟨h0,h1⟩,h3,h2⟩
 refine yh (fun hi=>?_) fun hi=>yy (yk (.inr ⟨rfl,⟨fun k x hx=>h3 k x ?_ hx,fun k x y hx hy=>h2 k x y ?_ hx hy⟩⟩))
 ·refine Zr h0 hi fun x hx=>?_
  rw [zdp]
  refine Yr ?_
  by_cases ho:okD x
  ·rw [if_pos ho]
   have ok':∀ j:Int,j = i + 1->∀ (k:Nat) y,k < j.toNat->l[k]? = some y->okD y:=fun j hj k y hk hy=>by
    by_cases hkk:k < i.toNat
    ·exact h3 k y hkk hy
    ·have e:k = i.toNat:=by omega
     rw [e,hx] at hy
     cases hy; exact ho
   refine yh (fun h=>absurd rfl h) fun _=>?_
   refine yh (fun hp=>?_) fun hp=>?_
   ·refine ZK fun j hj=>?_
    refine Zr (by omega) (by omega) fun y hy=>?_
    rw [zbz]
    refine Yr ?_
    refine yh (fun h=>yy (yk (.inl (by simp)))) fun hc=>?_
    refine ZK fun j' hj'=>qk ⟨⟨⟨by omega,by omega⟩,ok' _ hj',fun k u v hk hu hv=>?_⟩,by omega⟩
    by_cases hkk:k + 1 < i.toNat
    ·exact h2 k u v hkk hu hv
    ·have e1:k + 1 = i.toNat:=by omega
     have e2:k = j.toNat:=by omega
     rw [e1,hx] at hv
     rw [e2,hy] at hu
     cases hv
     cases hu
     change zaA _ _ < 0
     omega
   ·refine ZK fun j' hj'=>qk ⟨⟨⟨by omega,by omega⟩,ok' _ hj',fun k u v hk hu hv=>?_⟩,by omega⟩
    omega
  ·rw [if_neg ho]
   refine yh (fun _=>yy (yk (.inl (by simp)))) fun h=>absurd (by decide) h
 ·have:=(List.getElem?_eq_some_iff.1 hx).1
  omega
 ·have:=(List.getElem?_eq_some_iff.1 hy).1
  omega
noncomputable def ckN (l:List Mrk) (m:Mrk):Int:=if okD m then (match l[l.length - 1]? with | some p=>if 0 <= zap p m then 19 else 0 | none=>0) else 2
theorem zpz {l:List Mrk} {m:Mrk} (hv:Vd l) (hl:l.length <= 100000):∃ n,zz (l++[m]) = some (ckN l m,n):=by
 have key:W (zz (l++[m])) fun r=>r.1 = ckN l m:=by
  unfold zz
  refine ZG (fun i:Int=>0 <= i/\i <= (l.length:Int) + 1/\(i = (l.length:Int) + 1->ckN l m = 0)) (fun i=>l.length + 1 - i.toNat) ?_ ⟨Int.le_refl _,by omega,fun h=>by omega⟩
  rintro i ⟨h0,h1,h2⟩
  have hlen:((l++[m]).length:Int) = (l.length:Int) + 1:=by simp
  refine yh (fun hi=>?_) fun hi=>yy (yk (h2 (by omega)).symm)
  refine Zr h0 hi fun x hx=>?_
  rw [zdp]
  refine Yr ?_
  by_cases hil:i < (l.length:Int)
  ·have hx':l[i.toNat]? = some x:=by rw [List.getElem?_append_left (by omega)] at hx; exact hx
   rw [if_pos (hv.ok _ _ hx')]
   refine yh (fun h=>absurd rfl h) fun _=>?_
   refine yh (fun hp=>?_) fun hp=>?_
   ·refine ZK fun j hj=>?_
    refine Zr (by omega) (by omega) fun y hy=>?_
    have hj':j = i - 1:=hj
    have hy':l[j.toNat]? = some y:=by rw [List.getElem?_append_left (by omega)] at hy; exact hy
    rw [zbz]
    refine Yr ?_
    have hc:=hv.lt j.toNat y x hy' (by rw [show j.toNat + 1 = i.toNat from by omega]; exact hx')
    refine yh (fun h=>absurd h (by change ¬ 0 <= zap y x; omega)) fun _=>?_
    refine ZK fun j' hj'=>qk ⟨⟨by omega,by omega,fun h=>by omega⟩,by omega⟩
   ·refine ZK fun j' hj'=>qk ⟨⟨by omega,by omega,fun h=>by omega⟩,by omega⟩
  ·have e:i = (l.length:Int):=by omega
   subst e
   have hxm:x = m:=by simpa using hx.symm
   subst hxm
   by_cases ho:okD x
   ·rw [if_pos ho]
    refine yh (fun h=>absurd rfl h) fun _=>?_
    refine yh (fun hp=>?_) fun hp=>?_
    ·refine ZK fun j hj=>?_
     have hj':j = (l.length:Int) - 1:=hj
     refine Zr (by omega) (by omega) fun y hy=>?_
     have hy':l[l.length - 1]? = some y:=by
      rw [List.getElem?_append_left (by omega),show j.toNat = l.length - 1 from by omega] at hy
      exact hy
     rw [zbz]
     refine Yr ?_
     have ck:ckN l x = if 0 <= zap y x then 19 else 0:=by unfold ckN; rw [if_pos ho,hy']
     refine yh (fun h=>yy (yk ?_)) fun h=>?_
     ·rw [ck,if_pos h]
     ·refine ZK fun j' hj'=>qk ⟨⟨by omega,by omega,fun _=>by rw [ck,if_neg h]⟩,by omega⟩
    ·have hn:l[l.length - 1]? = none:=List.getElem?_eq_none (by omega)
     refine ZK fun j' hj'=>qk ⟨⟨by omega,by omega,fun _=>by unfold ckN; rw [if_pos ho,hn]⟩,by omega⟩
   ·rw [if_neg ho]
    refine yh (fun _=>yy (yk ?_)) fun h=>absurd (by decide) h
    unfold ckN; rw [if_neg ho]
 obtain ⟨⟨a,n⟩,e,h⟩:=key
 exact ⟨n,by rw [e,<- h]⟩
theorem Vd.snoc {l:List Mrk} {m:Mrk} (hv:Vd l) (h:ckN l m = 0):Vd (l++[m]):=by
 unfold ckN at h
 split at h
 case isFalse=>cases h
 rename_i ho
 have key:∀ (k:Nat) x,(l++[m])[k]? = some x->(k < l.length/\l[k]? = some x) ∨ (k = l.length/\x = m):=fun k x hx=>by
  rcases Nat.lt_trichotomy k l.length with hk | hk | hk
  ·exact .inl ⟨hk,by rw [List.getElem?_append_left hk] at hx; exact hx⟩
  ·exact .inr ⟨hk,by subst hk; simpa using hx.symm⟩
  ·rw [List.getElem?_eq_none (by simp; omega)] at hx; cases hx
 refine ⟨fun k x hx=>?_,fun k x y hx hy=>?_⟩
 ·rcases key k x hx with ⟨_,h1⟩ | ⟨_,rfl⟩
  ·exact hv.ok k x h1
  ·exact ho
 ·rcases key k x hx with ⟨h1,h2⟩ | ⟨h1,h2⟩ <;> rcases key (k + 1) y hy with ⟨h3,h4⟩ | ⟨h3,h4⟩
  ·exact hv.lt k x y h2 h4
  ·subst h4
   have e:l[l.length - 1]? = some x:=by rw [show l.length - 1 = k from by omega]; exact h2
   rw [e] at h
   dsimp only at h
   split at h
   ·cases h
   ·omega
  ·omega
  ·omega
theorem zro (l:List Mrk) (hl:l.length <= 100000) (hs:∀ x ∈ l,0 <= x.ID.Seq):∃ r,y9 l = some r/\zF l = some r:=by
 obtain ⟨⟨c,n⟩,hc,h⟩:=zrn hl
 have hp:y9 l = if c = 0 then txS yQ strconv_Itoa l [] else some ([],c):=by
  unfold y9
  rw [if_pos hl,hc]
  rfl
 by_cases h0:c = 0
 ·subst h0
  have hv:Vd l:=by
   rcases h with h | ⟨_,h⟩
   ·exact absurd rfl h
   ·exact h
  have hall:∀ x ∈ l,okD x/\0 <= x.ID.Seq:=fun x hx=>by
   obtain ⟨k,hk⟩:=List.getElem?_of_mem hx
   exact ⟨hv.ok k x hk,hs x hx⟩
  refine ⟨txR l [],by rw [hp,if_pos rfl,zpy l [] hall],W.eq ?_⟩
  unfold zF
  rw [zf9,hc]
  refine Yr ?_
  refine yh (fun h=>absurd rfl h) fun _=>?_
  refine ZG (fun s:List UInt8 × Int=>0 <= s.2/\s.2 <= (l.length:Int)/\s.1.length <= 20000/\txR (l.drop s.2.toNat) s.1 = txR l []) (fun s=>l.length - s.2.toNat) ?_ ⟨Int.le_refl _,by dsimp only; omega,by simp,rfl⟩
  rintro ⟨out,i⟩ ⟨i0,i1,i2,i3⟩
  dsimp only at i0 i1 i2 i3 ⊢
  refine yh (fun hi=>?_) fun hi=>yy (yk ?_)
  ·refine Zr i0 hi fun x hx=>?_
   obtain ⟨h1,h2⟩:=hall x (List.mem_of_getElem? hx)
   have h3:=h1.1
   have h4:=h1.2
   have hk:=zm9 h1 h2
   unfold okI at h3
   unfold okU at h4
   have l1:=qV (n:=x.ID.Node) (by omega) (by omega)
   have l2:=qV (n:=x.ID.Seq) h2 (by omega)
   have l3:=qV (n:=x.ID.Off) (by omega) (by omega)
   have l4:=qV (n:=x.Until) (by omega) (by omega)
   have w1:Go.IntKind.wrap .u64 x.ID.Node = x.ID.Node:=by rw [IntKind.wrap_u64]; omega
   have w3:Go.IntKind.wrap .u64 x.ID.Off = x.ID.Off:=by rw [IntKind.wrap_u64]; omega
   have w4:Go.IntKind.wrap .u64 x.Until = x.Until:=by rw [IntKind.wrap_u64]; omega
   rw [w1,w3,w4]
   refine yJ (zdq (by omega) (by omega)) ?_
   refine zco (by omega) ?_
   refine zco (by simp; omega) ?_
   refine yJ (zdq h2 (by omega)) ?_
   refine zco (by simp; omega) ?_
   refine zco (by simp; omega) ?_
   refine yJ (zdq (by omega) (by omega)) ?_
   refine zco (by simp; omega) ?_
   refine zco (by simp; omega) ?_
   refine yJ (zdq (by omega) (by omega)) ?_
   refine zco (by simp; omega) ?_
   refine zco (by simp; omega) ?_
   have e:out++dec x.ID.Node++[46]++dec x.ID.Seq++[46]++dec x.ID.Off++[47]++dec x.Until++[10] = out++mkT x:=by
    unfold mkT mkB idT
    simp only [List.append_assoc]
   rw [e]
   have hd:l.drop i.toNat = x :: l.drop (i.toNat + 1):=by
    obtain ⟨q,rfl⟩:=List.getElem?_eq_some_iff.1 hx
    exact List.drop_eq_getElem_cons q
   rw [hd,txR] at i3
   refine yh (fun hlong=>yy (yk ?_)) fun hlong=>?_
   ·rw [if_pos (by omega)] at i3
    exact i3
   ·rw [if_neg (by omega)] at i3
    refine ZK fun j hj=>?_
    have hj':j = i + 1:=hj
    subst hj'
    refine qk ⟨⟨by dsimp only; omega,by dsimp only; omega,by dsimp only; omega,?_⟩,by dsimp only; omega⟩
    dsimp only
    rw [show (i + 1).toNat = i.toNat + 1 from by omega]
    exact i3
  ·rw [List.drop_eq_nil_of_le (by omega),txR] at i3
   exact i3
 ·refine ⟨([],c),by rw [hp,if_neg h0],?_⟩
  unfold zF
  rw [zf9,hc]
  refine W.eq (Yr ?_)
  exact yh (fun _=>yk rfl) fun h=>absurd h0 h
end Go.Proofs.YtjcbpfhlgebgdaaGreatDoor
