import Derived.Test.YtjcbpfhlgebgdaaGreatDoorXRr
import Derived.KernelRfl
open Option renaming bind_some -> zug
set_option linter.unusedSimpArgs false
set_option linter.unusedVariables false
namespace Go.Proofs.YtjcbpfhlgebgdaaGreatDoor
open Go Go.Eng Go.RowKit Go.X Go.Seq
theorem zkc (c:Int):y8 c = some (qr c):=by
 unfold y8 qr
 by_cases h1:c = 34
 ·subst h1; rfl
 by_cases h2:c = 61
 ·subst h2; rfl
 by_cases h3:c = 92
 ·subst h3; rfl
 have e1:(c == (34:Int)) = false:=beq_eq_false_iff_ne.2 h1
 have e2:(c == (61:Int)) = false:=beq_eq_false_iff_ne.2 h2
 have e3:(c == (92:Int)) = false:=beq_eq_false_iff_ne.2 h3
 rw [e1,e2,e3,decide_eq_false h1,decide_eq_false h2,decide_eq_false h3]
 by_cases h4:32 < c
 ·rw [decide_eq_true h4]; simp [br]
 ·rw [decide_eq_false h4]; simp [br]
def za9 (l:List UInt8):Bool:=(l.all fun c=>qr (c.toNat:Int)) && !decide (l = []) && !decide (l.head? = some 35)
theorem zhH {s:List UInt8} (hs:s.length <= 1000000) (F:Int->Option (zar Int (Bool ⊕ Unit)))
  (hF:∀ i:Nat,F (i:Int) = br (decide ((i:Int) < (s.length:Int))) ((idx (yd s) (i:Int)).bind fun x_3=>(y8 x_3).bind fun x_4=>br (!x_4) (some (.done (.inl false))) ((zO .i64 (i:Int) (1:Int)).bind fun x_5=>some (.next x_5))) (some (.done (.inr ())))) :
  ∀ (k i:Nat),i + k = s.length->qO F (i:Int) = some (if (s.drop i).all (fun c=>qr (c.toNat:Int)) then .inr () else .inl false)
 | 0,i,hi=>by
  rw [qE,hF,decide_eq_false (by omega)]
  rw [List.drop_eq_nil_of_le (by omega)]
  rfl
 | k + 1,i,hi=>by
  have hlt:i < s.length:=by omega
  have hidx:idx (yd s) (i:Int) = some ((s[i].toNat:Int)):=by
   unfold idx yd
   simp [hlt]
  have hadd:zO .i64 (i:Int) (1:Int) = some (((i + 1:Nat)):Int):=by
   unfold zO
   have hin:InR .i64 ((i:Int) + 1):=IntWalk.i64_in _ (by omega)
   rw [if_pos hin]
   simp
  rw [qE,hF,decide_eq_true (by omega),hidx]
  simp only [zug,zkc,br]
  rw [List.drop_eq_getElem_cons hlt,List.all_cons]
  cases hp:qr (s[i].toNat:Int) with
  | false=>simp
  | true =>
   simp only [Bool.not_true,hadd,zug,Bool.true_and]
   have:=zhH hs F hF k (i + 1) (by omega)
   simpa using this
theorem zmV {l:List UInt8} (hl:l.length <= 1000000):qP l = some (za9 l):=by
 unfold qP
 have hlen:(yd l).length = l.length:=by simp [yd]
 rw [hlen]
 have h0:=zhH (s:=l) hl (fun x_2=>br (decide (x_2 < (l.length:Int))) ((idx (yd l) x_2).bind fun x_3=>(y8 x_3).bind fun x_4=>br (!x_4) (some (.done (.inl false))) ((zO .i64 x_2 (1:Int)).bind fun x_5=>some (.next x_5))) (some (.done (.inr ())))) (fun i=>rfl) l.length 0 (by omega)
 rw [List.drop_zero] at h0
 simp only [Int.natCast_zero] at h0
 rw [h0]
 simp only [zug]
 unfold za9
 cases ha:(l.all fun c=>qr (c.toNat:Int)) with
 | false=>rfl
 | true =>
  rw [if_pos rfl]
  cases l with
  | nil=>rfl
  | cons x t =>
   show br (!(x :: t == [])) ((yi (x :: t) 0).bind fun x_7=>some (x_7 != (35:Int))) (some false) = _
   have e1:(x :: t == ([]:List UInt8)) = false:=rfl
   have e2:yi (x :: t) 0 = some ((x.toNat:Int)):=rfl
   rw [e1,e2]
   simp only [br,Bool.not_false,zug,List.head?_cons,Bool.true_and,Option.some.injEq,cond_true]
   rw [decide_eq_false (by simp)]
   simp only [Bool.not_false,Bool.true_and]
   by_cases hx:x = 35
   ·subst hx; rfl
   ·have h3:¬ ((x.toNat:Int) = 35):=zge (n:=35) (by omega) hx
    rw [decide_eq_false hx]
    simpa using h3
theorem zph {l:List UInt8} (hl:l.length <= 1000000):zgV l = some (za9 l):=by
 unfold zgV; rw [if_pos hl,zmV hl]
theorem zq7 (c:Int):ye c = some (qr c):=by
 unfold ye qr
 by_cases h4:32 < c
 ·rw [decide_eq_true h4,decide_eq_true (show (33:Int) <= c by omega)]
  by_cases h5:c < 127
  ·rw [decide_eq_true h5,decide_eq_true (show c <= (126:Int) by omega)]
   by_cases h1:c = 34
   ·subst h1; rfl
   ·by_cases h2:c = 61
    ·subst h2; rfl
    ·have e1:(c != (34:Int)) = true:=bne_iff_ne.2 h1
     have e2:(c != (61:Int)) = true:=bne_iff_ne.2 h2
     rw [e1,e2,decide_eq_false h1,decide_eq_false h2]
     by_cases h3:c = 92
     ·subst h3; rfl
     ·have e3:(c != (92:Int)) = true:=bne_iff_ne.2 h3
      rw [e3,decide_eq_false h3]; rfl
  ·rw [decide_eq_false h5,decide_eq_false (show ¬ c <= (126:Int) by omega)]; rfl
 ·rw [decide_eq_false h4,decide_eq_false (show ¬ (33:Int) <= c by omega)]; rfl
theorem QM (s:List UInt8) (i:Int):idx (yd s) i = yi s i:=by
 unfold yi idx yd
 split
 ·simp [List.getElem?_map]
 ·rfl
theorem zkd {l:List UInt8} (hl:l.length <= 1000000):zr l = qP l:=by
 unfold zr qP
 have hlen:(yd l).length = l.length:=by simp [yd]
 rw [hlen]
 simp only [QM,zq7,zkc]
theorem zpi {l:List UInt8} (hl:l.length <= 1000000):zr l = some (za9 l):=by rw [zkd hl,zmV hl]
open Go Go.Eng Go.RowKit Go.X Go.Seq
theorem zlF (l:List UInt8):zU l = Zi l:=by
 unfold zU Zi
 have hlen:(yd l).length = l.length:=by simp [yd]
 rw [hlen]
 simp only [QM]
 refine congr (congrArg Option.bind (congrArg (fun F=>qO F (0:Int)) (funext fun i=>?_))) (funext fun z=>?_)
 ·cases hi:decide (i < (l.length:Int)) with
  | false=>rfl
  | true =>
   simp only [br,cond_true]
   cases hx:yi l i with
   | none=>rfl
   | some x =>
    simp only [zug]
    by_cases a:97 <= x <;> by_cases b:x <= 122 <;> by_cases c:i = 0 <;> by_cases d:x = 45 <;> by_cases e:x < 48 <;> by_cases f:57 < x <;> first | (exfalso; omega) | simp [a,b,c,d,e,f]
 ·cases z with
  | inl b=>rfl
  | inr u =>
   show br (!(l == [])) _ _ = br (decide ((1:Int) <= (l.length:Int))) _ _
   cases l with
   | nil=>rfl
   | cons x t =>
    have e1:(x :: t == ([]:List UInt8)) = false:=rfl
    have e2:decide ((1:Int) <= ((x :: t).length:Int)) = true:=decide_eq_true (by rw [List.length_cons]; omega)
    rw [e1,e2]
    rfl
open Go Go.Eng Go.RowKit Go.X Go.Seq
abbrev zlG:List UInt8:=[48,49,50,51,52,53,54,55,56,57,97,98,99,100,101,102]
theorem zq8:((List.range 256).all fun n=>zE (n:Int) == some (Lib.indexByte zlG (UInt8.ofNat n))) = true:=by kernel_rfl
theorem ziI {c:Int} (h0:0 <= c) (h1:c < 256):zE c = strings_IndexByte (zlG,c):=by
 have h:=List.all_eq_true.1 zq8 c.toNat (List.mem_range.2 (by omega))
 have h2:=eq_of_beq h
 rw [Int.toNat_of_nonneg h0] at h2
 rw [h2]
 rfl
theorem zdW {c:Int} (h0:0 <= c) (h1:c < 256):∃ d,zE c = some d/\-1 <= d/\d < 16:=by
 rw [ziI h0 h1]
 exact ⟨_,rfl,Lib.indexByte_ge _ _,zpW zlG _⟩
open Go Go.Eng Go.RowKit Go.X Go.Seq
theorem Zv {a b:Int} (h:-1000000000 <= a + b/\a + b <= 1000000000):zO .i64 a b = some (a + b):=by
 unfold zO
 have hin:InR .i64 (a + b):=IntWalk.i64_in _ (by omega)
 rw [if_pos hin]
theorem zq9 {a b:Int} (h:-1000000000 <= a - b/\a - b <= 1000000000):Yb .i64 a b = some (a - b):=by
 unfold Yb
 have hin:InR .i64 (a - b):=IntWalk.i64_in _ (by omega)
 rw [if_pos hin]
theorem Q9 {S:List UInt8} {i:Int} (h0:0 <= i) (h:i < (S.length:Int)):∃ c:Int,yi S i = some c/\0 <= c/\c < 256:=by
 have hl:i.toNat < S.length:=by omega
 refine ⟨(S[i.toNat].toNat:Int),?_,by omega,?_⟩
 ·unfold yi idx; rw [if_pos h0,List.getElem?_eq_getElem hl]; rfl
 ·have:=S[i.toNat].toNat_lt; omega
theorem zdX {S:List UInt8} {p c:Int} (hS:S.length <= 1000000) (h0:0 <= p) (h:p < (S.length:Int)) (hc:yi S p = some c):zb () ⟨S,p⟩ = some (c,⟨S,p + 1⟩):=by
 unfold zb
 rw [zfw]
 simp only [zug]
 rw [decide_eq_true h]
 show ((zO .i64 p 1).bind fun x_4=>(Yb .i64 x_4 1).bind fun x_5=>(yi S x_5).bind fun x_6=>some (x_6,(⟨S,x_4⟩:Scanner))) = _
 rw [Zv (by omega)]
 simp only [zug]
 rw [zq9 (by omega),show p + 1 - 1 = p by omega]
 simp only [zug,hc]
theorem zmW {S:List UInt8} {p:Int} (h:(S.length:Int) <= p):zb () ⟨S,p⟩ = some (0,⟨S,p⟩):=by
 unfold zb
 rw [zfw]
 simp only [zug]
 rw [decide_eq_false (by show ¬ p < (S.length:Int); omega)]
 rfl
open Go Go.Eng Go.RowKit Go.X Go.Seq
theorem zhI {S:List UInt8} {p:Int} (hS:S.length <= 1000000) (h0:0 <= p) (hp:p < (S.length:Int)) (hc:yi S p = some 92) :
  ∃ (d:Int) (b:Bool) (q:Int),zH () ⟨S,p + 1⟩ = some ((d,b),⟨S,q⟩)/\zl (S,p) = some (if b then (d,q - p) else (0,0)):=by
 have hd0:decide ((S.length:Int) <= p) = false:=decide_eq_false (by omega)
 have ha:zO .i64 p 1 = some (p + 1):=Zv (by omega)
 have ha2:zO .i64 p 2 = some (p + 2):=Zv (by omega)
 have ha3:zO .i64 p 3 = some (p + 3):=Zv (by omega)
 unfold zl zH
 simp only [hd0,hc,zug,br,cond_false,ha,ha2,ha3]
 by_cases h1:p + 1 < (S.length:Int)
 ·obtain ⟨c,hc1,g0,g1⟩:=Q9 (S:=S) (i:=p + 1) (by omega) h1
  rw [zdX hS (by omega) h1 hc1]
  have hd1:decide ((S.length:Int) <= p + 1) = false:=decide_eq_false (by omega)
  simp only [hd1,hc1,zug,cond_false]
  by_cases e1:c = 110
  ·subst e1; exact ⟨10,true,p + 1 + 1,rfl,by simp; omega⟩
  by_cases e2:c = 34
  ·subst e2; exact ⟨34,true,p + 1 + 1,rfl,by simp; omega⟩
  by_cases e3:c = 92
  ·subst e3; exact ⟨92,true,p + 1 + 1,rfl,by simp; omega⟩
  by_cases e4:c = 120
  ·subst e4
   have b1:((120:Int) == (110:Int)) = false:=rfl
   have b2:((120:Int) == (34:Int)) = false:=rfl
   have b3:((120:Int) == (92:Int)) = false:=rfl
   have b4:((120:Int) == (120:Int)) = true:=rfl
   have b5:decide ((92:Int) < 32) = false:=rfl
   have b6:decide ((126:Int) < 92) = false:=rfl
   have b7:((92:Int) == (34:Int)) = false:=rfl
   have b8:((92:Int) != (92:Int)) = false:=rfl
   simp only [b1,b2,b3,b4,b5,b6,b7,b8,cond_false,cond_true,show p + 1 + 1 = p + 2 by omega]
   by_cases h3:p + 3 < (S.length:Int)
   ·obtain ⟨a,ga,ga0,ga1⟩:=Q9 (S:=S) (i:=p + 2) (by omega) (by omega)
    obtain ⟨b,gb,gb0,gb1⟩:=Q9 (S:=S) (i:=p + 3) (by omega) h3
    obtain ⟨i,hi,hi0,hi1⟩:=zdW ga0 ga1
    obtain ⟨k,hk,hk0,hk1⟩:=zdW gb0 gb1
    have n1:=zdX hS (p:=p + 2) (by omega) (by omega) ga
    have n2:=zdX hS (p:=p + 3) (by omega) h3 gb
    have i1:strings_IndexByte (zlG,a) = some i:=(ziI ga0 ga1).symm.trans hi
    have i2:strings_IndexByte (zlG,b) = some k:=(ziI gb0 gb1).symm.trans hk
    have m1:zbd .i64 16 i = some (16 * i):=by
     unfold zbd
     have hin:InR .i64 (16 * i):=IntWalk.i64_in _ (by omega)
     rw [if_pos hin]
    have m2:zO .i64 (16 * i) k = some (16 * i + k):=Zv (by omega)
    have d3:decide (p + 3 < (S.length:Int)) = true:=decide_eq_true h3
    simp only [n1,zug,show p + 2 + 1 = p + 3 by omega,n2,i1,i2,m1,m2,d3,ga,gb,hi,hk,cond_true]
    refine ⟨IntKind.wrap .u8 (16 * i + k),decide (0 <= i) && decide (0 <= k),p + 3 + 1,?_,?_⟩
    ·cases decide (0 <= i) <;> cases decide (0 <= k) <;> rfl
    ·cases decide (0 <= i) <;> cases decide (0 <= k) <;> simp <;> omega
   ·have d3:decide (p + 3 < (S.length:Int)) = false:=decide_eq_false h3
    have i0:strings_IndexByte (zlG,0) = some (-1):=rfl
    have nk:∀ q:Int,q = p + 3 ∨ q = p + 2->(S.length:Int) <= q->zb () ⟨S,q⟩ = some (0,⟨S,q⟩):=fun q _ hq=>zmW hq
    simp only [d3,cond_false]
    by_cases h2:p + 2 < (S.length:Int)
    ·obtain ⟨a,ga,ga0,ga1⟩:=Q9 (S:=S) (i:=p + 2) (by omega) h2
     obtain ⟨i,hi,hi0,hi1⟩:=zdW ga0 ga1
     have n1:=zdX hS (p:=p + 2) (by omega) h2 ga
     have i1:strings_IndexByte (zlG,a) = some i:=(ziI ga0 ga1).symm.trans hi
     have m1:zbd .i64 16 i = some (16 * i):=by
      unfold zbd
      have hin:InR .i64 (16 * i):=IntWalk.i64_in _ (by omega)
      rw [if_pos hin]
     have m2:zO .i64 (16 * i) (-1) = some (16 * i + -1):=Zv (by omega)
     simp only [n1,zug,show p + 2 + 1 = p + 3 by omega,nk (p + 3) (.inl rfl) (by omega),i1,i0,m1,m2]
     refine ⟨IntKind.wrap .u8 (16 * i + -1),false,p + 3,?_,rfl⟩
     cases decide (0 <= i) <;> rfl
    ·simp only [nk (p + 2) (.inr rfl) (by omega),zug,i0]
     exact ⟨_,false,p + 2,rfl,rfl⟩
  ·have b1:(c == (110:Int)) = false:=beq_eq_false_iff_ne.2 e1
   have b2:(c == (34:Int)) = false:=beq_eq_false_iff_ne.2 e2
   have b3:(c == (92:Int)) = false:=beq_eq_false_iff_ne.2 e3
   have b4:(c == (120:Int)) = false:=beq_eq_false_iff_ne.2 e4
   refine ⟨0,false,p + 1 + 1,?_,?_⟩
   ·simp only [b1,b2,b3,b4,cond_false]
   ·simp only [b1,b2,b3,b4,cond_false]
    rfl
 ·rw [zmW (by omega)]
  have hd1:decide ((S.length:Int) <= p + 1) = true:=decide_eq_true (by omega)
  simp only [hd1,cond_true]
  exact ⟨0,false,p + 1,rfl,rfl⟩
open Go Go.Eng Go.RowKit Go.X Go.Seq
theorem zbv {S:List UInt8} {p c:Int} (h0:0 <= p) (hp:p < (S.length:Int)) (hc:yi S p = some c) (h92:c ≠ 92) :
  zl (S,p) = some (if 32 <= c/\c < 127/\c ≠ 34 then (c,1) else (0,0)):=by
 have hd0:decide ((S.length:Int) <= p) = false:=decide_eq_false (by omega)
 unfold zl
 simp only [hd0,hc,zug,br,cond_false]
 by_cases a:c < 32
 ·rw [decide_eq_true a,if_neg (by omega)]; rfl
 ·by_cases b:126 < c
  ·rw [decide_eq_false a,decide_eq_true b,if_neg (by omega)]; rfl
  ·by_cases d:c = 34
   ·subst d; rfl
   ·have b3:(c == (34:Int)) = false:=beq_eq_false_iff_ne.2 d
    have b4:(c != (92:Int)) = true:=bne_iff_ne.2 h92
    rw [decide_eq_false a,decide_eq_false b,b3,b4,if_pos (by omega)]
    rfl
theorem znX {S:List UInt8} {p:Int} (hp:(S.length:Int) <= p):zl (S,p) = some (0,0):=by
 unfold zl
 simp only [decide_eq_true hp]
 rfl
open Go Go.Eng Go.RowKit Go.X Go.Seq
theorem ztf {l:List Int} {x:Int} (h:l.length <= 3000000):app 1 l [x] = some (l++[x]):=by
 unfold app
 rw [if_pos (by simp; omega)]
theorem zeB (acc:List UInt8) {c:Int} (h0:0 <= c) (h1:c < 256):yd (acc++[UInt8.ofNat c.toNat]) = yd acc++[c]:=by
 have:((UInt8.ofNat c.toNat).toNat:Int) = c:=by rw [UInt8.toNat_ofNat']; omega
 simp only [yd,List.map_append,List.map_cons,List.map_nil,this]
theorem zbw {S:List UInt8} (hS:S.length <= 1000000) (F:Int × List Int->Option (zar (Int × List Int) (Int × List Int)))
  (hF:∀ a o,F (a,o) = (zl (S,a)).bind fun r=>br (r.2 == (0:Int)) (some (.done (a,o))) ((app 1 o [r.1]).bind fun x_9=>(zO .i64 a r.2).bind fun x_10=>some (.next (x_10,x_9)))) :
  ∀ (k:Nat) (acc:List UInt8) (p:Int) (a:List UInt8) (ok:Bool) (q:Int),0 <= p->p <= (S.length:Int)->acc.length + k <= 2000000->qF (S.length:Int) (nxF S) (esF S) k acc p = some ((a,ok),q) ->
   ∃ at' out,qO F (p,yd acc) = some (at',out)/\0 <= at'/\((ok = true/\at' < (S.length:Int)/\yi S at' = some 34/\q = at' + 1/\out = yd a) ∨ (ok = false/\((S.length:Int) <= at' ∨ ∃ c,yi S at' = some c/\c ≠ 34)))
 | 0,acc,p,a,ok,q,_,_,_,h=>by cases h
 | k + 1,acc,p,a,ok,q,h0,h1,hk,h=>by
  have hal:(yd acc).length <= 3000000:=by simp [yd]; omega
  unfold qF at h
  split at h
  ·rename_i hp
   obtain ⟨c,hc,g0,g1⟩:=Q9 h0 hp
   have hn:nxF S p = some (c,p + 1):=by unfold nxF; rw [zdX hS h0 hp hc]; rfl
   rw [hn] at h
   simp only [zug] at h
   by_cases e34:c = 34
   ·rw [if_pos e34] at h
    cases h
    subst e34
    refine ⟨p,yd acc,?_,h0,.inl ⟨rfl,hp,hc,rfl,rfl⟩⟩
    rw [qE,hF,zbv h0 hp hc (by decide),if_neg (by decide)]
    rfl
   ·rw [if_neg e34] at h
    by_cases e92:c = 92
    ·rw [if_pos e92] at h
     subst e92
     obtain ⟨d,b,q1,he,hpc⟩:=zhI hS h0 hp hc
     have hes:esF S (p + 1) = some ((d,b),q1):=by unfold esF; rw [if_pos (by omega),he]; rfl
     obtain ⟨_,hq1,hq2,hd0,hd1⟩:=zgU he (by omega)
     dsimp only at hq1 hq2
     rw [hes] at h
     simp only [zug] at h
     cases b with
     | true =>
      rw [if_pos rfl] at h
      obtain ⟨at',out,r1,r2,r3⟩:=zbw hS F hF k _ q1 a ok q (by omega) hq2 (by simp; omega) h
      refine ⟨at',out,?_,r2,r3⟩
      rw [zeB acc hd0 hd1] at r1
      rw [qE,hF,hpc,if_pos rfl]
      have z:((q1 - p) == (0:Int)) = false:=beq_eq_false_iff_ne.2 (by omega)
      simp only [zug,z,br,cond_false,ztf hal,Zv (a:=p) (b:=q1 - p) (by omega),show p + (q1 - p) = q1 by omega]
      exact r1
     | false =>
      rw [if_neg (by simp)] at h
      cases h
      refine ⟨p,yd acc,?_,h0,.inr ⟨rfl,.inr ⟨92,hc,by decide⟩⟩⟩
      rw [qE,hF,hpc]
      rfl
    ·rw [if_neg e92] at h
     by_cases hr:32 <= c/\c < 127
     ·rw [if_pos hr] at h
      obtain ⟨at',out,r1,r2,r3⟩:=zbw hS F hF k _ (p + 1) a ok q (by omega) (by omega) (by simp; omega) h
      refine ⟨at',out,?_,r2,r3⟩
      rw [zeB acc g0 g1] at r1
      rw [qE,hF,zbv h0 hp hc e92,if_pos ⟨hr.1,hr.2,e34⟩]
      have z:((1:Int) == (0:Int)) = false:=rfl
      simp only [zug,z,br,cond_false,ztf hal,Zv (a:=p) (b:=1) (by omega)]
      exact r1
     ·rw [if_neg hr] at h
      cases h
      refine ⟨p,yd acc,?_,h0,.inr ⟨rfl,.inr ⟨c,hc,e34⟩⟩⟩
      rw [qE,hF,zbv h0 hp hc e92,if_neg (fun z=>hr ⟨z.1,z.2.1⟩)]
      rfl
  ·rename_i hp
   cases h
   refine ⟨p,yd acc,?_,h0,.inr ⟨rfl,.inl (by omega)⟩⟩
   rw [qE,hF,znX (by omega)]
   rfl
open Go Go.Eng Go.RowKit Go.X Go.Seq
theorem ze8 (a:List UInt8):zab (yd a) = some a:=by
 unfold zab yd
 rw [if_pos (by
  rw [List.all_eq_true]
  intro x hx
  obtain ⟨b,_,rfl⟩:=List.mem_map.1 hx
  have:=b.toNat_lt
  simp; omega)]
 rw [List.map_map]
 congr 1
 have:((fun n:Int=>UInt8.ofNat n.toNat) ∘ fun b:UInt8=>(b.toNat:Int)) = id:=funext fun b=>by simp
 rw [this,List.map_id]
theorem znY {S:List UInt8} {p q:Int} {a:List UInt8} {ok:Bool} (h0:0 <= p) (hp:p < (S.length:Int)) (hc:yi S p = some 34) (h:qdF (qR S) (p + 1) = some ((a,ok),q)) :
  zQ (S,p) = some (if ok then (a,q) else ([],-1)):=by
 unfold qdF at h
 obtain ⟨⟨r,y⟩,hg,hh⟩:=Option.map_eq_some_iff.1 h
 cases hh
 have hg':zu () ⟨S,p + 1⟩ = some ((a,ok),y):=hg
 unfold zu at hg'
 split at hg'
 case isFalse=>cases hg'
 rename_i hx
 obtain ⟨hS,_,hp1⟩:=hx
 dsimp only at hS hp1
 obtain ⟨⟨r1,q1⟩,hz,hw⟩:=Option.map_eq_some_iff.1 hg'
 cases hw
 obtain ⟨at',out,hit,ha0,hcase⟩:=zbw hS (fun s=>(zl (S,s.1)).bind fun r=>br (r.2 == (0:Int)) (some (.done (s.1,s.2))) ((app 1 s.2 [r.1]).bind fun x_9=>(zO .i64 s.1 r.2).bind fun x_10=>some (.next (x_10,x_9)))) (fun a o=>rfl) _ _ _ a ok q1 (by omega) hp1 (by simp; omega) hz
 unfold zQ
 have hd0:decide ((S.length:Int) <= p) = false:=decide_eq_false (by omega)
 have e34:((34:Int) != (34:Int)) = false:=rfl
 simp only [hd0,hc,zug,br,cond_false,e34,Zv (a:=p) (b:=1) (by omega)]
 have hit':=hit
 simp only [br] at hit'
 rw [show yd [] = [] from rfl] at hit'
 rw [hit']
 simp only [zug]
 rcases hcase with ⟨rfl,g1,g2,rfl,rfl⟩ | ⟨rfl,g1 | ⟨c,g1,g2⟩⟩
 ·simp only [decide_eq_false (show ¬ (S.length:Int) <= at' by omega),g2,zug,cond_false,e34,ze8,Zv (a:=at') (b:=1) (by omega)]
  rfl
 ·simp only [decide_eq_true g1,cond_true]
  rfl
 ·have hlt:at' < (S.length:Int):=by
   unfold yi idx at g1
   rw [if_pos ha0] at g1
   by_cases hh:at' < (S.length:Int)
   ·exact hh
   ·rw [List.getElem?_eq_none (by omega)] at g1; cases g1
  have b4:(c != (34:Int)) = true:=bne_iff_ne.2 g2
  simp only [decide_eq_false (show ¬ (S.length:Int) <= at' by omega),g1,zug,cond_false,b4,cond_true]
  rfl
open Go Go.Eng Go.RowKit Go.X Go.Seq
def blL (l:List UInt8):Nat:=(l.takeWhile fun c=>!decide (c = 32)).length
theorem zf3 {S:List UInt8} (hS:S.length <= 1000000) (F:Int->Option (zar Int Int))
  (hF:∀ i:Int,F i = br (decide (i < (S.length:Int))) ((yi S i).bind fun x_8=>br (x_8 != (32:Int)) ((zO .i64 i (1:Int)).bind fun x_9=>some (.next x_9)) (some (.done i))) (some (.done i))) :
  ∀ (k i:Nat),i + k = S.length->qO F (i:Int) = some ((i + blL (S.drop i):Nat):Int)
 | 0,i,hi=>by
  rw [qE,hF,decide_eq_false (by omega),List.drop_eq_nil_of_le (by omega)]
  rfl
 | k + 1,i,hi=>by
  have hlt:i < S.length:=by omega
  have hidx:yi S (i:Int) = some ((S[i].toNat:Int)):=by
   unfold yi idx
   simp [hlt]
  rw [qE,hF,decide_eq_true (by omega),hidx]
  simp only [zug,br,cond_true]
  rw [List.drop_eq_getElem_cons hlt]
  unfold blL
  rw [List.takeWhile_cons]
  by_cases h32:S[i] = 32
  ·have b:((S[i].toNat:Int) != (32:Int)) = false:=by rw [h32]; rfl
   rw [b,if_neg (by simp [h32])]
   simp
  ·have b:((S[i].toNat:Int) != (32:Int)) = true:=bne_iff_ne.2 (zge (n:=32) (by omega) h32)
   rw [b,if_pos (by simp [h32])]
   simp only [cond_true,Zv (a:=(i:Int)) (b:=1) (by omega),zug]
   have:=zf3 hS F hF k (i + 1) (by omega)
   simp only [List.length_cons]
   rw [show (i:Int) + 1 = ((i + 1:Nat):Int) by omega,this]
   unfold blL
   congr 1
   omega
open Go Go.Eng Go.RowKit Go.X Go.Seq
theorem ze9 {c:UInt8} (h:qr (c.toNat:Int) = true):¬ c = 32:=by
 rintro rfl; exact absurd h (by decide)
theorem zcA:∀ (l:List UInt8),(yj l <= blL l)/\((l.take (blL l)).all (fun c=>qr (c.toNat:Int)) = true ↔ yj l = blL l)/\(yj l = blL l ↔ (l[yj l]? = none ∨ l[yj l]? = some 32))
 | []=>by simp [yj,blL]
 | x :: l=>by
  obtain ⟨h1,h2,h3⟩:=zcA l
  unfold yj blL at *
  rw [List.takeWhile_cons,List.takeWhile_cons]
  by_cases hx:qr (x.toNat:Int) = true
  ·have hb:=ze9 hx
   rw [if_pos hx,if_pos (by simp [hb])]
   refine ⟨by simpa using h1,?_,?_⟩
   ·simp only [List.length_cons,List.take_succ_cons,List.all_cons,hx,Bool.true_and,Nat.add_right_cancel_iff]
    exact h2
   ·simp only [List.length_cons,List.getElem?_cons_succ,Nat.add_right_cancel_iff]
    exact h3
  ·rw [if_neg hx]
   by_cases hb:x = 32
   ·rw [if_neg (by simp [hb])]
    refine ⟨Nat.le_refl _,by simp,by simp [hb]⟩
   ·rw [if_pos (by simp [hb])]
    refine ⟨by simp,?_,?_⟩
    ·simp [hx]
    ·simp [hb]
open Go Go.Eng Go.RowKit Go.X Go.Seq
theorem zke {S:List UInt8} (hS:S.length <= 1000000) {p q:Int} {t:List UInt8} {is:Bool} (h0:0 <= p) (hp:p < (S.length:Int)) (hc:yi S p = some 34) (h:qdF (qR S) (p + 1) = some ((t,is),q)) (hq:q <= (S.length:Int)) :
  zh (S,p) = some (if is && (decide ((S.length:Int) <= q) || decide (yi S q = some 32)) then (t,q) else ([],-1)):=by
 have hge:=(zqG h).1
 unfold zh
 have e34:((34:Int) == (34:Int)) = true:=rfl
 simp only [decide_eq_true hp,hc,zug,br,cond_true,e34,znY h0 hp hc h]
 cases is with
 | false=>rfl
 | true =>
  simp only [if_true,Bool.true_and]
  have g1:decide (q < 0) = false:=decide_eq_false (by omega)
  by_cases hl:q < (S.length:Int)
  ·obtain ⟨c,g2,_,_⟩:=Q9 (S:=S) (i:=q) (by omega) hl
   have g3:decide ((S.length:Int) <= q) = false:=decide_eq_false (by omega)
   simp only [g1,cond_false,decide_eq_true hl,cond_true,g2,zug,g3,Bool.false_or,Option.some.injEq]
   by_cases g4:c = 32
   ·subst g4; rfl
   ·have g5:(c != (32:Int)) = true:=bne_iff_ne.2 g4
    rw [g5,decide_eq_false g4]; rfl
  ·have g3:decide ((S.length:Int) <= q) = true:=decide_eq_true (by omega)
   simp only [g1,cond_false,decide_eq_false hl,g3,Bool.true_or]
   rfl
open Go Go.Eng Go.RowKit Go.X Go.Seq
theorem zpj (l:List UInt8):blL l <= l.length:=(List.takeWhile_sublist _).length_le
theorem zlH {S:List UInt8} (hS:S.length <= 1000000) (i:Nat) (hi:i <= S.length) (hc:yi S (i:Int) ≠ some 34) :
  zh (S,(i:Int)) = some (if za9 ((S.drop i).take (yj (S.drop i))) && (decide ((S.drop i)[yj (S.drop i)]? = none) || decide ((S.drop i)[yj (S.drop i)]? = some 32)) then ((S.drop i).take (yj (S.drop i)),((i + yj (S.drop i):Nat):Int)) else ([],-1)):=by
 have hit:=zf3 hS (fun end_7=>br (decide (end_7 < (S.length:Int))) ((yi S end_7).bind fun x_8=>br (x_8 != (32:Int)) ((zO .i64 end_7 (1:Int)).bind fun x_9=>some (.next x_9)) (some (.done end_7))) (some (.done end_7))) (fun i=>rfl) (S.length - i) i (by omega)
 have hm:=zpj (S.drop i)
 rw [List.length_drop] at hm
 have hslc:slc S (i:Int) ((i + blL (S.drop i):Nat):Int) = some ((S.drop i).take (blL (S.drop i))):=by
  unfold slc
  rw [if_pos ⟨by omega,by omega,by omega⟩]
  congr 1
  rw [show ((i + blL (S.drop i):Nat):Int).toNat = i + blL (S.drop i) from rfl,show ((i:Int)).toNat = i from rfl,List.drop_take]
  congr 1
  omega
 have hpl:zr ((S.drop i).take (blL (S.drop i))) = some (za9 ((S.drop i).take (blL (S.drop i)))):=zpi (by simp only [List.length_take,List.length_drop]; omega)
 obtain ⟨_,s2,s3⟩:=zcA (S.drop i)
 have key:((some ((i + blL (S.drop i):Nat):Int)).bind fun end_10=>(slc S (i:Int) end_10).bind fun x_11=>(zr x_11).bind fun x_12=>br (!x_12) (some (([]:List UInt8),(-1:Int))) ((slc S (i:Int) end_10).bind fun x_13=>some (x_13,end_10))) =
   some (if za9 ((S.drop i).take (yj (S.drop i))) && (decide ((S.drop i)[yj (S.drop i)]? = none) || decide ((S.drop i)[yj (S.drop i)]? = some 32)) then ((S.drop i).take (yj (S.drop i)),((i + yj (S.drop i):Nat):Int)) else ([],-1)):=by
  simp only [zug,hslc,hpl]
  by_cases hn:yj (S.drop i) = blL (S.drop i)
  ·have ho:=s3.1 hn
   have hb:(decide ((S.drop i)[yj (S.drop i)]? = none) || decide ((S.drop i)[yj (S.drop i)]? = some 32)) = true:=by
    rcases ho with ho | ho
    ·rw [decide_eq_true ho]; rfl
    ·rw [decide_eq_true ho,Bool.or_true]
   rw [hb,hn,Bool.and_true]
   cases za9 ((S.drop i).take (blL (S.drop i))) <;> rfl
  ·have hb:(decide ((S.drop i)[yj (S.drop i)]? = none) || decide ((S.drop i)[yj (S.drop i)]? = some 32)) = false:=by
    rw [decide_eq_false (fun z=>hn (s3.2 (.inl z))),decide_eq_false (fun z=>hn (s3.2 (.inr z)))]; rfl
   have hf:za9 ((S.drop i).take (blL (S.drop i))) = false:=by
    unfold za9
    cases ha:((S.drop i).take (blL (S.drop i))).all (fun c=>qr (c.toNat:Int)) with
    | true=>exact absurd (s2.1 ha) hn
    | false=>rfl
   rw [hb,hf,Bool.and_false]
   rfl
 unfold zh
 by_cases hlt:(i:Int) < (S.length:Int)
 ·obtain ⟨c,g1,_,_⟩:=Q9 (S:=S) (i:=(i:Int)) (by omega) hlt
  have hne:(c == (34:Int)) = false:=beq_eq_false_iff_ne.2 fun e=>hc (by rw [g1,e])
  simp only [br] at hit key ⊢
  simp only [decide_eq_true hlt,cond_true,g1,zug,hne,cond_false]
  rw [hit]
  exact key
 ·simp only [br] at hit key ⊢
  simp only [decide_eq_false hlt,cond_false]
  rw [hit]
  exact key
end Go.Proofs.YtjcbpfhlgebgdaaGreatDoor
