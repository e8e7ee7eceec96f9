import Derived.Test.YtjcbpfhlgebgdaaDoorXRr
import Derived.KernelRfl
namespace Go.Proofs.YtjcbpfhlgebgdaaDoor
open Go Go.Eng Go.RowKit Go.X Go.Seq
theorem plain_eq (c:Int):words_plain c = some (plainI c):=by
 unfold words_plain plainI
 by_cases h1:c = 34
 ·subst h1; rfl
 by_cases h2:c = 61
 ·subst h2; rfl
 by_cases h3:c = 92
 ·subst h3; rfl
 have e1:(c == (34:Int)) = false:=beq_eq_false_iff_ne.2 h1
 have e2:(c == (61:Int)) = false:=beq_eq_false_iff_ne.2 h2
 have e3:(c == (92:Int)) = false:=beq_eq_false_iff_ne.2 h3
 rw [e1,e2,e3,decide_eq_false h1,decide_eq_false h2,decide_eq_false h3]
 by_cases h4:32 < c
 ·rw [decide_eq_true h4]; simp [br]
 ·rw [decide_eq_false h4]; simp [br]
def bareB (l:List UInt8):Bool:=(l.all fun c=>plainI (c.toNat:Int)) && !decide (l = []) && !decide (l.head? = some 35)
theorem bare_loop {s:List UInt8} (hs:s.length ≤ 1000000) (F:Int→Option (Step Int (Bool ⊕ Unit)))
  (hF:∀ i:Nat,F (i:Int) = br (decide ((i:Int) < (s.length:Int))) ((idx (bytesI s) (i:Int)).bind fun x_3=>(words_plain x_3).bind fun x_4=>br (!x_4) (some (.done (.inl false))) ((addI .i64 (i:Int) (1:Int)).bind fun x_5=>some (.next x_5))) (some (.done (.inr ())))) :
  ∀ (k i:Nat),i + k = s.length→iter F (i:Int) = some (if (s.drop i).all (fun c=>plainI (c.toNat:Int)) then .inr () else .inl false)
 | 0,i,hi=>by
  rw [iter_eq,hF,decide_eq_false (by omega)]
  rw [List.drop_eq_nil_of_le (by omega)]
  rfl
 | k + 1,i,hi=>by
  have hlt:i < s.length:=by omega
  have hidx:idx (bytesI s) (i:Int) = some ((s[i].toNat:Int)):=by
   unfold idx bytesI
   simp [hlt]
  have hadd:addI .i64 (i:Int) (1:Int) = some (((i + 1:Nat)):Int):=by
   unfold addI
   have hin:InR .i64 ((i:Int) + 1):=IntWalk.i64_in _ (by omega)
   rw [if_pos hin]
   simp
  rw [iter_eq,hF,decide_eq_true (by omega),hidx]
  simp only [Option.bind_some,plain_eq,br]
  rw [List.drop_eq_getElem_cons hlt,List.all_cons]
  cases hp:plainI (s[i].toNat:Int) with
  | false=>simp
  | true =>
   simp only [Bool.not_true,hadd,Option.bind_some,Bool.true_and]
   have:=bare_loop hs F hF k (i + 1) (by omega)
   simpa using this
theorem bare_eq {l:List UInt8} (hl:l.length ≤ 1000000):words_bare l = some (bareB l):=by
 unfold words_bare
 have hlen:(bytesI l).length = l.length:=by simp [bytesI]
 rw [hlen]
 have h0:=bare_loop (s:=l) hl (fun x_2=>br (decide (x_2 < (l.length:Int))) ((idx (bytesI l) x_2).bind fun x_3=>(words_plain x_3).bind fun x_4=>br (!x_4) (some (.done (.inl false))) ((addI .i64 x_2 (1:Int)).bind fun x_5=>some (.next x_5))) (some (.done (.inr ())))) (fun i=>rfl) l.length 0 (by omega)
 rw [List.drop_zero] at h0
 simp only [Int.natCast_zero] at h0
 rw [h0]
 simp only [Option.bind_some]
 unfold bareB
 cases ha:(l.all fun c=>plainI (c.toNat:Int)) with
 | false=>rfl
 | true =>
  rw [if_pos rfl]
  cases l with
  | nil=>rfl
  | cons x t =>
   show br (!(x :: t == [])) ((idxS (x :: t) 0).bind fun x_7=>some (x_7 != (35:Int))) (some false) = _
   have e1:(x :: t == ([]:List UInt8)) = false:=rfl
   have e2:idxS (x :: t) 0 = some ((x.toNat:Int)):=rfl
   rw [e1,e2]
   simp only [br,Bool.not_false,Option.bind_some,List.head?_cons,Bool.true_and,Option.some.injEq,cond_true]
   rw [decide_eq_false (by simp)]
   simp only [Bool.not_false,Bool.true_and]
   by_cases hx:x = 35
   ·subst hx; rfl
   ·have h3:¬ ((x.toNat:Int) = 35):=u8_ne (n:=35) (by omega) hx
    rw [decide_eq_false hx]
    simpa using h3
theorem bareF_eq {l:List UInt8} (hl:l.length ≤ 1000000):bareF l = some (bareB l):=by
 unfold bareF; rw [if_pos hl,bare_eq hl]
theorem open_eq (c:Int):packhorseref03_open c = some (plainI c):=by
 unfold packhorseref03_open plainI
 by_cases h4:32 < c
 ·rw [decide_eq_true h4,decide_eq_true (show (33:Int) ≤ c by omega)]
  by_cases h5:c < 127
  ·rw [decide_eq_true h5,decide_eq_true (show c ≤ (126:Int) by omega)]
   by_cases h1:c = 34
   ·subst h1; rfl
   ·by_cases h2:c = 61
    ·subst h2; rfl
    ·have e1:(c != (34:Int)) = true:=bne_iff_ne.2 h1
     have e2:(c != (61:Int)) = true:=bne_iff_ne.2 h2
     rw [e1,e2,decide_eq_false h1,decide_eq_false h2]
     by_cases h3:c = 92
     ·subst h3; rfl
     ·have e3:(c != (92:Int)) = true:=bne_iff_ne.2 h3
      rw [e3,decide_eq_false h3]; rfl
  ·rw [decide_eq_false h5,decide_eq_false (show ¬ c ≤ (126:Int) by omega)]; rfl
 ·rw [decide_eq_false h4,decide_eq_false (show ¬ (33:Int) ≤ c by omega)]; rfl
theorem idxS_bytes (s:List UInt8) (i:Int):idx (bytesI s) i = idxS s i:=by
 unfold idxS idx bytesI
 split
 ·simp [List.getElem?_map]
 ·rfl
theorem refplain_eq {l:List UInt8} (hl:l.length ≤ 1000000):packhorseref03_plain l = words_bare l:=by
 unfold packhorseref03_plain words_bare
 have hlen:(bytesI l).length = l.length:=by simp [bytesI]
 rw [hlen]
 simp only [idxS_bytes,open_eq,plain_eq]
theorem refplain {l:List UInt8} (hl:l.length ≤ 1000000):packhorseref03_plain l = some (bareB l):=by rw [refplain_eq hl,bare_eq hl]
end Go.Proofs.YtjcbpfhlgebgdaaDoor
namespace Go.Proofs.YtjcbpfhlgebgdaaDoor
open Go Go.Eng Go.RowKit Go.X Go.Seq
theorem refName_eq (l:List UInt8):packhorseref03_Name l = words_Name l:=by
 unfold packhorseref03_Name words_Name
 have hlen:(bytesI l).length = l.length:=by simp [bytesI]
 rw [hlen]
 simp only [idxS_bytes]
 refine congr (congrArg Option.bind (congrArg (fun F=>iter F (0:Int)) (funext fun i=>?_))) (funext fun z=>?_)
 ·cases hi:decide (i < (l.length:Int)) with
  | false=>rfl
  | true =>
   simp only [br,cond_true]
   cases hx:idxS l i with
   | none=>rfl
   | some x =>
    simp only [Option.bind_some]
    by_cases a:97 ≤ x <;> by_cases b:x ≤ 122 <;> by_cases c:i = 0 <;> by_cases d:x = 45 <;> by_cases e:x < 48 <;> by_cases f:57 < x <;> first | (exfalso; omega) | simp [a,b,c,d,e,f]
 ·cases z with
  | inl b=>rfl
  | inr u =>
   show br (!(l == [])) _ _ = br (decide ((1:Int) ≤ (l.length:Int))) _ _
   cases l with
   | nil=>rfl
   | cons x t =>
    have e1:(x :: t == ([]:List UInt8)) = false:=rfl
    have e2:decide ((1:Int) ≤ ((x :: t).length:Int)) = true:=decide_eq_true (by rw [List.length_cons]; omega)
    rw [e1,e2]
    rfl
end Go.Proofs.YtjcbpfhlgebgdaaDoor
namespace Go.Proofs.YtjcbpfhlgebgdaaDoor
open Go Go.Eng Go.RowKit Go.X Go.Seq
abbrev hexL:List UInt8:=[48,49,50,51,52,53,54,55,56,57,97,98,99,100,101,102]
theorem hex_all:((List.range 256).all fun n=>packhorseref03_hex (n:Int) == some (Lib.indexByte hexL (UInt8.ofNat n))) = true:=by kernel_rfl
theorem hex_eq {c:Int} (h0:0 ≤ c) (h1:c < 256):packhorseref03_hex c = strings_IndexByte (hexL,c):=by
 have h:=List.all_eq_true.1 hex_all c.toNat (List.mem_range.2 (by omega))
 have h2:=eq_of_beq h
 rw [Int.toNat_of_nonneg h0] at h2
 rw [h2]
 rfl
theorem hex_range {c:Int} (h0:0 ≤ c) (h1:c < 256):∃ d,packhorseref03_hex c = some d∧-1 ≤ d∧d < 16:=by
 rw [hex_eq h0 h1]
 exact ⟨_,rfl,Lib.indexByte_ge _ _,ib_lt hexL _⟩
end Go.Proofs.YtjcbpfhlgebgdaaDoor
namespace Go.Proofs.YtjcbpfhlgebgdaaDoor
open Go Go.Eng Go.RowKit Go.X Go.Seq
theorem addI_ok {a b:Int} (h:-1000000000 ≤ a + b∧a + b ≤ 1000000000):addI .i64 a b = some (a + b):=by
 unfold addI
 have hin:InR .i64 (a + b):=IntWalk.i64_in _ (by omega)
 rw [if_pos hin]
theorem subI_ok {a b:Int} (h:-1000000000 ≤ a - b∧a - b ≤ 1000000000):subI .i64 a b = some (a - b):=by
 unfold subI
 have hin:InR .i64 (a - b):=IntWalk.i64_in _ (by omega)
 rw [if_pos hin]
theorem idxS_in {S:List UInt8} {i:Int} (h0:0 ≤ i) (h:i < (S.length:Int)):∃ c:Int,idxS S i = some c∧0 ≤ c∧c < 256:=by
 have hl:i.toNat < S.length:=by omega
 refine ⟨(S[i.toNat].toNat:Int),?_,by omega,?_⟩
 ·unfold idxS idx; rw [if_pos h0,List.getElem?_eq_getElem hl]; rfl
 ·have:=S[i.toNat].toNat_lt; omega
theorem nxF_in {S:List UInt8} {p c:Int} (hS:S.length ≤ 1000000) (h0:0 ≤ p) (h:p < (S.length:Int)) (hc:idxS S p = some c):words_scanner_next () ⟨S,p⟩ = some (c,⟨S,p + 1⟩):=by
 unfold words_scanner_next
 rw [more_eq]
 simp only [Option.bind_some]
 rw [decide_eq_true h]
 show ((addI .i64 p 1).bind fun x_4=>(subI .i64 x_4 1).bind fun x_5=>(idxS S x_5).bind fun x_6=>some (x_6,(⟨S,x_4⟩:Scanner))) = _
 rw [addI_ok (by omega)]
 simp only [Option.bind_some]
 rw [subI_ok (by omega),show p + 1 - 1 = p by omega]
 simp only [Option.bind_some,hc]
theorem nxF_end {S:List UInt8} {p:Int} (h:(S.length:Int) ≤ p):words_scanner_next () ⟨S,p⟩ = some (0,⟨S,p⟩):=by
 unfold words_scanner_next
 rw [more_eq]
 simp only [Option.bind_some]
 rw [decide_eq_false (by show ¬ p < (S.length:Int); omega)]
 rfl
end Go.Proofs.YtjcbpfhlgebgdaaDoor
namespace Go.Proofs.YtjcbpfhlgebgdaaDoor
open Go Go.Eng Go.RowKit Go.X Go.Seq
theorem piece_esc {S:List UInt8} {p:Int} (hS:S.length ≤ 1000000) (h0:0 ≤ p) (hp:p < (S.length:Int)) (hc:idxS S p = some 92) :
  ∃ (d:Int) (b:Bool) (q:Int),words_scanner_escape () ⟨S,p + 1⟩ = some ((d,b),⟨S,q⟩)∧packhorseref03_piece (S,p) = some (if b then (d,q - p) else (0,0)):=by
 have hd0:decide ((S.length:Int) ≤ p) = false:=decide_eq_false (by omega)
 have ha:addI .i64 p 1 = some (p + 1):=addI_ok (by omega)
 have ha2:addI .i64 p 2 = some (p + 2):=addI_ok (by omega)
 have ha3:addI .i64 p 3 = some (p + 3):=addI_ok (by omega)
 unfold packhorseref03_piece words_scanner_escape
 simp only [hd0,hc,Option.bind_some,br,cond_false,ha,ha2,ha3]
 by_cases h1:p + 1 < (S.length:Int)
 ·obtain ⟨c,hc1,g0,g1⟩:=idxS_in (S:=S) (i:=p + 1) (by omega) h1
  rw [nxF_in hS (by omega) h1 hc1]
  have hd1:decide ((S.length:Int) ≤ p + 1) = false:=decide_eq_false (by omega)
  simp only [hd1,hc1,Option.bind_some,cond_false]
  by_cases e1:c = 110
  ·subst e1; exact ⟨10,true,p + 1 + 1,rfl,by simp; omega⟩
  by_cases e2:c = 34
  ·subst e2; exact ⟨34,true,p + 1 + 1,rfl,by simp; omega⟩
  by_cases e3:c = 92
  ·subst e3; exact ⟨92,true,p + 1 + 1,rfl,by simp; omega⟩
  by_cases e4:c = 120
  ·subst e4
   have b1:((120:Int) == (110:Int)) = false:=rfl
   have b2:((120:Int) == (34:Int)) = false:=rfl
   have b3:((120:Int) == (92:Int)) = false:=rfl
   have b4:((120:Int) == (120:Int)) = true:=rfl
   have b5:decide ((92:Int) < 32) = false:=rfl
   have b6:decide ((126:Int) < 92) = false:=rfl
   have b7:((92:Int) == (34:Int)) = false:=rfl
   have b8:((92:Int) != (92:Int)) = false:=rfl
   simp only [b1,b2,b3,b4,b5,b6,b7,b8,cond_false,cond_true,show p + 1 + 1 = p + 2 by omega]
   by_cases h3:p + 3 < (S.length:Int)
   ·obtain ⟨a,ga,ga0,ga1⟩:=idxS_in (S:=S) (i:=p + 2) (by omega) (by omega)
    obtain ⟨b,gb,gb0,gb1⟩:=idxS_in (S:=S) (i:=p + 3) (by omega) h3
    obtain ⟨i,hi,hi0,hi1⟩:=hex_range ga0 ga1
    obtain ⟨k,hk,hk0,hk1⟩:=hex_range gb0 gb1
    have n1:=nxF_in hS (p:=p + 2) (by omega) (by omega) ga
    have n2:=nxF_in hS (p:=p + 3) (by omega) h3 gb
    have i1:strings_IndexByte (hexL,a) = some i:=(hex_eq ga0 ga1).symm.trans hi
    have i2:strings_IndexByte (hexL,b) = some k:=(hex_eq gb0 gb1).symm.trans hk
    have m1:mulI .i64 16 i = some (16 * i):=by
     unfold mulI
     have hin:InR .i64 (16 * i):=IntWalk.i64_in _ (by omega)
     rw [if_pos hin]
    have m2:addI .i64 (16 * i) k = some (16 * i + k):=addI_ok (by omega)
    have d3:decide (p + 3 < (S.length:Int)) = true:=decide_eq_true h3
    simp only [n1,Option.bind_some,show p + 2 + 1 = p + 3 by omega,n2,i1,i2,m1,m2,d3,ga,gb,hi,hk,cond_true]
    refine ⟨IntKind.wrap .u8 (16 * i + k),decide (0 ≤ i) && decide (0 ≤ k),p + 3 + 1,?_,?_⟩
    ·cases decide (0 ≤ i) <;> cases decide (0 ≤ k) <;> rfl
    ·cases decide (0 ≤ i) <;> cases decide (0 ≤ k) <;> simp <;> omega
   ·have d3:decide (p + 3 < (S.length:Int)) = false:=decide_eq_false h3
    have i0:strings_IndexByte (hexL,0) = some (-1):=rfl
    have nk:∀ q:Int,q = p + 3 ∨ q = p + 2→(S.length:Int) ≤ q→words_scanner_next () ⟨S,q⟩ = some (0,⟨S,q⟩):=fun q _ hq=>nxF_end hq
    simp only [d3,cond_false]
    by_cases h2:p + 2 < (S.length:Int)
    ·obtain ⟨a,ga,ga0,ga1⟩:=idxS_in (S:=S) (i:=p + 2) (by omega) h2
     obtain ⟨i,hi,hi0,hi1⟩:=hex_range ga0 ga1
     have n1:=nxF_in hS (p:=p + 2) (by omega) h2 ga
     have i1:strings_IndexByte (hexL,a) = some i:=(hex_eq ga0 ga1).symm.trans hi
     have m1:mulI .i64 16 i = some (16 * i):=by
      unfold mulI
      have hin:InR .i64 (16 * i):=IntWalk.i64_in _ (by omega)
      rw [if_pos hin]
     have m2:addI .i64 (16 * i) (-1) = some (16 * i + -1):=addI_ok (by omega)
     simp only [n1,Option.bind_some,show p + 2 + 1 = p + 3 by omega,nk (p + 3) (.inl rfl) (by omega),i1,i0,m1,m2]
     refine ⟨IntKind.wrap .u8 (16 * i + -1),false,p + 3,?_,rfl⟩
     cases decide (0 ≤ i) <;> rfl
    ·simp only [nk (p + 2) (.inr rfl) (by omega),Option.bind_some,i0]
     exact ⟨_,false,p + 2,rfl,rfl⟩
  ·have b1:(c == (110:Int)) = false:=beq_eq_false_iff_ne.2 e1
   have b2:(c == (34:Int)) = false:=beq_eq_false_iff_ne.2 e2
   have b3:(c == (92:Int)) = false:=beq_eq_false_iff_ne.2 e3
   have b4:(c == (120:Int)) = false:=beq_eq_false_iff_ne.2 e4
   refine ⟨0,false,p + 1 + 1,?_,?_⟩
   ·simp only [b1,b2,b3,b4,cond_false]
   ·simp only [b1,b2,b3,b4,cond_false]
    rfl
 ·rw [nxF_end (by omega)]
  have hd1:decide ((S.length:Int) ≤ p + 1) = true:=decide_eq_true (by omega)
  simp only [hd1,cond_true]
  exact ⟨0,false,p + 1,rfl,rfl⟩
end Go.Proofs.YtjcbpfhlgebgdaaDoor
namespace Go.Proofs.YtjcbpfhlgebgdaaDoor
open Go Go.Eng Go.RowKit Go.X Go.Seq
theorem piece_plain {S:List UInt8} {p c:Int} (h0:0 ≤ p) (hp:p < (S.length:Int)) (hc:idxS S p = some c) (h92:c ≠ 92) :
  packhorseref03_piece (S,p) = some (if 32 ≤ c∧c < 127∧c ≠ 34 then (c,1) else (0,0)):=by
 have hd0:decide ((S.length:Int) ≤ p) = false:=decide_eq_false (by omega)
 unfold packhorseref03_piece
 simp only [hd0,hc,Option.bind_some,br,cond_false]
 by_cases a:c < 32
 ·rw [decide_eq_true a,if_neg (by omega)]; rfl
 ·by_cases b:126 < c
  ·rw [decide_eq_false a,decide_eq_true b,if_neg (by omega)]; rfl
  ·by_cases d:c = 34
   ·subst d; rfl
   ·have b3:(c == (34:Int)) = false:=beq_eq_false_iff_ne.2 d
    have b4:(c != (92:Int)) = true:=bne_iff_ne.2 h92
    rw [decide_eq_false a,decide_eq_false b,b3,b4,if_pos (by omega)]
    rfl
theorem piece_end {S:List UInt8} {p:Int} (hp:(S.length:Int) ≤ p):packhorseref03_piece (S,p) = some (0,0):=by
 unfold packhorseref03_piece
 simp only [decide_eq_true hp]
 rfl
end Go.Proofs.YtjcbpfhlgebgdaaDoor
namespace Go.Proofs.YtjcbpfhlgebgdaaDoor
open Go Go.Eng Go.RowKit Go.X Go.Seq
theorem app1 {l:List Int} {x:Int} (h:l.length ≤ 3000000):app 1 l [x] = some (l++[x]):=by
 unfold app
 rw [if_pos (by simp; omega)]
theorem bytesI_snoc (acc:List UInt8) {c:Int} (h0:0 ≤ c) (h1:c < 256):bytesI (acc++[UInt8.ofNat c.toNat]) = bytesI acc++[c]:=by
 have:((UInt8.ofNat c.toNat).toNat:Int) = c:=by rw [UInt8.toNat_ofNat']; omega
 simp only [bytesI,List.map_append,List.map_cons,List.map_nil,this]
theorem quoted_loop {S:List UInt8} (hS:S.length ≤ 1000000) (F:Int × List Int→Option (Step (Int × List Int) (Int × List Int)))
  (hF:∀ a o,F (a,o) = (packhorseref03_piece (S,a)).bind fun r=>br (r.2 == (0:Int)) (some (.done (a,o))) ((app 1 o [r.1]).bind fun x_9=>(addI .i64 a r.2).bind fun x_10=>some (.next (x_10,x_9)))) :
  ∀ (k:Nat) (acc:List UInt8) (p:Int) (a:List UInt8) (ok:Bool) (q:Int),0 ≤ p→p ≤ (S.length:Int)→acc.length + k ≤ 2000000→qF (S.length:Int) (nxF S) (esF S) k acc p = some ((a,ok),q) →
   ∃ at' out,iter F (p,bytesI acc) = some (at',out)∧0 ≤ at'∧((ok = true∧at' < (S.length:Int)∧idxS S at' = some 34∧q = at' + 1∧out = bytesI a) ∨ (ok = false∧((S.length:Int) ≤ at' ∨ ∃ c,idxS S at' = some c∧c ≠ 34)))
 | 0,acc,p,a,ok,q,_,_,_,h=>by cases h
 | k + 1,acc,p,a,ok,q,h0,h1,hk,h=>by
  have hal:(bytesI acc).length ≤ 3000000:=by simp [bytesI]; omega
  unfold qF at h
  split at h
  ·rename_i hp
   obtain ⟨c,hc,g0,g1⟩:=idxS_in h0 hp
   have hn:nxF S p = some (c,p + 1):=by unfold nxF; rw [nxF_in hS h0 hp hc]; rfl
   rw [hn] at h
   simp only [Option.bind_some] at h
   by_cases e34:c = 34
   ·rw [if_pos e34] at h
    cases h
    subst e34
    refine ⟨p,bytesI acc,?_,h0,.inl ⟨rfl,hp,hc,rfl,rfl⟩⟩
    rw [iter_eq,hF,piece_plain h0 hp hc (by decide),if_neg (by decide)]
    rfl
   ·rw [if_neg e34] at h
    by_cases e92:c = 92
    ·rw [if_pos e92] at h
     subst e92
     obtain ⟨d,b,q1,he,hpc⟩:=piece_esc hS h0 hp hc
     have hes:esF S (p + 1) = some ((d,b),q1):=by unfold esF; rw [if_pos (by omega),he]; rfl
     obtain ⟨_,hq1,hq2,hd0,hd1⟩:=esc_eq he (by omega)
     dsimp only at hq1 hq2
     rw [hes] at h
     simp only [Option.bind_some] at h
     cases b with
     | true =>
      rw [if_pos rfl] at h
      obtain ⟨at',out,r1,r2,r3⟩:=quoted_loop hS F hF k _ q1 a ok q (by omega) hq2 (by simp; omega) h
      refine ⟨at',out,?_,r2,r3⟩
      rw [bytesI_snoc acc hd0 hd1] at r1
      rw [iter_eq,hF,hpc,if_pos rfl]
      have z:((q1 - p) == (0:Int)) = false:=beq_eq_false_iff_ne.2 (by omega)
      simp only [Option.bind_some,z,br,cond_false,app1 hal,addI_ok (a:=p) (b:=q1 - p) (by omega),show p + (q1 - p) = q1 by omega]
      exact r1
     | false =>
      rw [if_neg (by simp)] at h
      cases h
      refine ⟨p,bytesI acc,?_,h0,.inr ⟨rfl,.inr ⟨92,hc,by decide⟩⟩⟩
      rw [iter_eq,hF,hpc]
      rfl
    ·rw [if_neg e92] at h
     by_cases hr:32 ≤ c∧c < 127
     ·rw [if_pos hr] at h
      obtain ⟨at',out,r1,r2,r3⟩:=quoted_loop hS F hF k _ (p + 1) a ok q (by omega) (by omega) (by simp; omega) h
      refine ⟨at',out,?_,r2,r3⟩
      rw [bytesI_snoc acc g0 g1] at r1
      rw [iter_eq,hF,piece_plain h0 hp hc e92,if_pos ⟨hr.1,hr.2,e34⟩]
      have z:((1:Int) == (0:Int)) = false:=rfl
      simp only [Option.bind_some,z,br,cond_false,app1 hal,addI_ok (a:=p) (b:=1) (by omega)]
      exact r1
     ·rw [if_neg hr] at h
      cases h
      refine ⟨p,bytesI acc,?_,h0,.inr ⟨rfl,.inr ⟨c,hc,e34⟩⟩⟩
      rw [iter_eq,hF,piece_plain h0 hp hc e92,if_neg (fun z=>hr ⟨z.1,z.2.1⟩)]
      rfl
  ·rename_i hp
   cases h
   refine ⟨p,bytesI acc,?_,h0,.inr ⟨rfl,.inl (by omega)⟩⟩
   rw [iter_eq,hF,piece_end (by omega)]
   rfl
end Go.Proofs.YtjcbpfhlgebgdaaDoor
namespace Go.Proofs.YtjcbpfhlgebgdaaDoor
open Go Go.Eng Go.RowKit Go.X Go.Seq
theorem toBytes_bytesI' (a:List UInt8):toBytes (bytesI a) = some a:=by
 unfold toBytes bytesI
 rw [if_pos (by
  rw [List.all_eq_true]
  intro x hx
  obtain ⟨b,_,rfl⟩:=List.mem_map.1 hx
  have:=b.toNat_lt
  simp; omega)]
 rw [List.map_map]
 congr 1
 have:((fun n:Int=>UInt8.ofNat n.toNat) ∘ fun b:UInt8=>(b.toNat:Int)) = id:=funext fun b=>by simp
 rw [this,List.map_id]
theorem quoted_eq {S:List UInt8} {p q:Int} {a:List UInt8} {ok:Bool} (h0:0 ≤ p) (hp:p < (S.length:Int)) (hc:idxS S p = some 34) (h:qdF (bsOf S) (p + 1) = some ((a,ok),q)) :
  packhorseref03_quoted (S,p) = some (if ok then (a,q) else ([],-1)):=by
 unfold qdF at h
 obtain ⟨⟨r,y⟩,hg,hh⟩:=Option.map_eq_some_iff.1 h
 cases hh
 have hg':words_scanner_quoted () ⟨S,p + 1⟩ = some ((a,ok),y):=hg
 unfold words_scanner_quoted at hg'
 split at hg'
 case isFalse=>cases hg'
 rename_i hx
 obtain ⟨hS,_,hp1⟩:=hx
 dsimp only at hS hp1
 obtain ⟨⟨r1,q1⟩,hz,hw⟩:=Option.map_eq_some_iff.1 hg'
 cases hw
 obtain ⟨at',out,hit,ha0,hcase⟩:=quoted_loop hS (fun s=>(packhorseref03_piece (S,s.1)).bind fun r=>br (r.2 == (0:Int)) (some (.done (s.1,s.2))) ((app 1 s.2 [r.1]).bind fun x_9=>(addI .i64 s.1 r.2).bind fun x_10=>some (.next (x_10,x_9)))) (fun a o=>rfl) _ _ _ a ok q1 (by omega) hp1 (by simp; omega) hz
 unfold packhorseref03_quoted
 have hd0:decide ((S.length:Int) ≤ p) = false:=decide_eq_false (by omega)
 have e34:((34:Int) != (34:Int)) = false:=rfl
 simp only [hd0,hc,Option.bind_some,br,cond_false,e34,addI_ok (a:=p) (b:=1) (by omega)]
 have hit':=hit
 simp only [br] at hit'
 rw [show bytesI [] = [] from rfl] at hit'
 rw [hit']
 simp only [Option.bind_some]
 rcases hcase with ⟨rfl,g1,g2,rfl,rfl⟩ | ⟨rfl,g1 | ⟨c,g1,g2⟩⟩
 ·simp only [decide_eq_false (show ¬ (S.length:Int) ≤ at' by omega),g2,Option.bind_some,cond_false,e34,toBytes_bytesI',addI_ok (a:=at') (b:=1) (by omega)]
  rfl
 ·simp only [decide_eq_true g1,cond_true]
  rfl
 ·have hlt:at' < (S.length:Int):=by
   unfold idxS idx at g1
   rw [if_pos ha0] at g1
   by_cases hh:at' < (S.length:Int)
   ·exact hh
   ·rw [List.getElem?_eq_none (by omega)] at g1; cases g1
  have b4:(c != (34:Int)) = true:=bne_iff_ne.2 g2
  simp only [decide_eq_false (show ¬ (S.length:Int) ≤ at' by omega),g1,Option.bind_some,cond_false,b4,cond_true]
  rfl
end Go.Proofs.YtjcbpfhlgebgdaaDoor
namespace Go.Proofs.YtjcbpfhlgebgdaaDoor
open Go Go.Eng Go.RowKit Go.X Go.Seq
def blL (l:List UInt8):Nat:=(l.takeWhile fun c=>!decide (c = 32)).length
theorem blank_loop {S:List UInt8} (hS:S.length ≤ 1000000) (F:Int→Option (Step Int Int))
  (hF:∀ i:Int,F i = br (decide (i < (S.length:Int))) ((idxS S i).bind fun x_8=>br (x_8 != (32:Int)) ((addI .i64 i (1:Int)).bind fun x_9=>some (.next x_9)) (some (.done i))) (some (.done i))) :
  ∀ (k i:Nat),i + k = S.length→iter F (i:Int) = some ((i + blL (S.drop i):Nat):Int)
 | 0,i,hi=>by
  rw [iter_eq,hF,decide_eq_false (by omega),List.drop_eq_nil_of_le (by omega)]
  rfl
 | k + 1,i,hi=>by
  have hlt:i < S.length:=by omega
  have hidx:idxS S (i:Int) = some ((S[i].toNat:Int)):=by
   unfold idxS idx
   simp [hlt]
  rw [iter_eq,hF,decide_eq_true (by omega),hidx]
  simp only [Option.bind_some,br,cond_true]
  rw [List.drop_eq_getElem_cons hlt]
  unfold blL
  rw [List.takeWhile_cons]
  by_cases h32:S[i] = 32
  ·have b:((S[i].toNat:Int) != (32:Int)) = false:=by rw [h32]; rfl
   rw [b,if_neg (by simp [h32])]
   simp
  ·have b:((S[i].toNat:Int) != (32:Int)) = true:=bne_iff_ne.2 (u8_ne (n:=32) (by omega) h32)
   rw [b,if_pos (by simp [h32])]
   simp only [cond_true,addI_ok (a:=(i:Int)) (b:=1) (by omega),Option.bind_some]
   have:=blank_loop hS F hF k (i + 1) (by omega)
   simp only [List.length_cons]
   rw [show (i:Int) + 1 = ((i + 1:Nat):Int) by omega,this]
   unfold blL
   congr 1
   omega
end Go.Proofs.YtjcbpfhlgebgdaaDoor
namespace Go.Proofs.YtjcbpfhlgebgdaaDoor
open Go Go.Eng Go.RowKit Go.X Go.Seq
theorem plain_not_blank {c:UInt8} (h:plainI (c.toNat:Int) = true):¬ c = 32:=by
 rintro rfl; exact absurd h (by decide)
theorem scan_blank:∀ (l:List UInt8),(scanL l ≤ blL l)∧((l.take (blL l)).all (fun c=>plainI (c.toNat:Int)) = true ↔ scanL l = blL l)∧(scanL l = blL l ↔ (l[scanL l]? = none ∨ l[scanL l]? = some 32))
 | []=>by simp [scanL,blL]
 | x :: l=>by
  obtain ⟨h1,h2,h3⟩:=scan_blank l
  unfold scanL blL at *
  rw [List.takeWhile_cons,List.takeWhile_cons]
  by_cases hx:plainI (x.toNat:Int) = true
  ·have hb:=plain_not_blank hx
   rw [if_pos hx,if_pos (by simp [hb])]
   refine ⟨by simpa using h1,?_,?_⟩
   ·simp only [List.length_cons,List.take_succ_cons,List.all_cons,hx,Bool.true_and,Nat.add_right_cancel_iff]
    exact h2
   ·simp only [List.length_cons,List.getElem?_cons_succ,Nat.add_right_cancel_iff]
    exact h3
  ·rw [if_neg hx]
   by_cases hb:x = 32
   ·rw [if_neg (by simp [hb])]
    refine ⟨Nat.le_refl _,by simp,by simp [hb]⟩
   ·rw [if_pos (by simp [hb])]
    refine ⟨by simp,?_,?_⟩
    ·simp [hx]
    ·simp [hb]
end Go.Proofs.YtjcbpfhlgebgdaaDoor
namespace Go.Proofs.YtjcbpfhlgebgdaaDoor
open Go Go.Eng Go.RowKit Go.X Go.Seq
theorem body_quoted {S:List UInt8} (hS:S.length ≤ 1000000) {p q:Int} {t:List UInt8} {is:Bool} (h0:0 ≤ p) (hp:p < (S.length:Int)) (hc:idxS S p = some 34) (h:qdF (bsOf S) (p + 1) = some ((t,is),q)) (hq:q ≤ (S.length:Int)) :
  packhorseref03_body (S,p) = some (if is && (decide ((S.length:Int) ≤ q) || decide (idxS S q = some 32)) then (t,q) else ([],-1)):=by
 have hge:=(qdF_ge h).1
 unfold packhorseref03_body
 have e34:((34:Int) == (34:Int)) = true:=rfl
 simp only [decide_eq_true hp,hc,Option.bind_some,br,cond_true,e34,quoted_eq h0 hp hc h]
 cases is with
 | false=>rfl
 | true =>
  simp only [if_true,Bool.true_and]
  have g1:decide (q < 0) = false:=decide_eq_false (by omega)
  by_cases hl:q < (S.length:Int)
  ·obtain ⟨c,g2,_,_⟩:=idxS_in (S:=S) (i:=q) (by omega) hl
   have g3:decide ((S.length:Int) ≤ q) = false:=decide_eq_false (by omega)
   simp only [g1,cond_false,decide_eq_true hl,cond_true,g2,Option.bind_some,g3,Bool.false_or,Option.some.injEq]
   by_cases g4:c = 32
   ·subst g4; rfl
   ·have g5:(c != (32:Int)) = true:=bne_iff_ne.2 g4
    rw [g5,decide_eq_false g4]; rfl
  ·have g3:decide ((S.length:Int) ≤ q) = true:=decide_eq_true (by omega)
   simp only [g1,cond_false,decide_eq_false hl,g3,Bool.true_or]
   rfl
end Go.Proofs.YtjcbpfhlgebgdaaDoor
namespace Go.Proofs.YtjcbpfhlgebgdaaDoor
open Go Go.Eng Go.RowKit Go.X Go.Seq
theorem blL_le (l:List UInt8):blL l ≤ l.length:=(List.takeWhile_sublist _).length_le
theorem body_plain {S:List UInt8} (hS:S.length ≤ 1000000) (i:Nat) (hi:i ≤ S.length) (hc:idxS S (i:Int) ≠ some 34) :
  packhorseref03_body (S,(i:Int)) = some (if bareB ((S.drop i).take (scanL (S.drop i))) && (decide ((S.drop i)[scanL (S.drop i)]? = none) || decide ((S.drop i)[scanL (S.drop i)]? = some 32)) then ((S.drop i).take (scanL (S.drop i)),((i + scanL (S.drop i):Nat):Int)) else ([],-1)):=by
 have hit:=blank_loop hS (fun end_7=>br (decide (end_7 < (S.length:Int))) ((idxS S end_7).bind fun x_8=>br (x_8 != (32:Int)) ((addI .i64 end_7 (1:Int)).bind fun x_9=>some (.next x_9)) (some (.done end_7))) (some (.done end_7))) (fun i=>rfl) (S.length - i) i (by omega)
 have hm:=blL_le (S.drop i)
 rw [List.length_drop] at hm
 have hslc:slc S (i:Int) ((i + blL (S.drop i):Nat):Int) = some ((S.drop i).take (blL (S.drop i))):=by
  unfold slc
  rw [if_pos ⟨by omega,by omega,by omega⟩]
  congr 1
  rw [show ((i + blL (S.drop i):Nat):Int).toNat = i + blL (S.drop i) from rfl,show ((i:Int)).toNat = i from rfl,List.drop_take]
  congr 1
  omega
 have hpl:packhorseref03_plain ((S.drop i).take (blL (S.drop i))) = some (bareB ((S.drop i).take (blL (S.drop i)))):=refplain (by simp only [List.length_take,List.length_drop]; omega)
 obtain ⟨_,s2,s3⟩:=scan_blank (S.drop i)
 have key:((some ((i + blL (S.drop i):Nat):Int)).bind fun end_10=>(slc S (i:Int) end_10).bind fun x_11=>(packhorseref03_plain x_11).bind fun x_12=>br (!x_12) (some (([]:List UInt8),(-1:Int))) ((slc S (i:Int) end_10).bind fun x_13=>some (x_13,end_10))) =
   some (if bareB ((S.drop i).take (scanL (S.drop i))) && (decide ((S.drop i)[scanL (S.drop i)]? = none) || decide ((S.drop i)[scanL (S.drop i)]? = some 32)) then ((S.drop i).take (scanL (S.drop i)),((i + scanL (S.drop i):Nat):Int)) else ([],-1)):=by
  simp only [Option.bind_some,hslc,hpl]
  by_cases hn:scanL (S.drop i) = blL (S.drop i)
  ·have ho:=s3.1 hn
   have hb:(decide ((S.drop i)[scanL (S.drop i)]? = none) || decide ((S.drop i)[scanL (S.drop i)]? = some 32)) = true:=by
    rcases ho with ho | ho
    ·rw [decide_eq_true ho]; rfl
    ·rw [decide_eq_true ho,Bool.or_true]
   rw [hb,hn,Bool.and_true]
   cases bareB ((S.drop i).take (blL (S.drop i))) <;> rfl
  ·have hb:(decide ((S.drop i)[scanL (S.drop i)]? = none) || decide ((S.drop i)[scanL (S.drop i)]? = some 32)) = false:=by
    rw [decide_eq_false (fun z=>hn (s3.2 (.inl z))),decide_eq_false (fun z=>hn (s3.2 (.inr z)))]; rfl
   have hf:bareB ((S.drop i).take (blL (S.drop i))) = false:=by
    unfold bareB
    cases ha:((S.drop i).take (blL (S.drop i))).all (fun c=>plainI (c.toNat:Int)) with
    | true=>exact absurd (s2.1 ha) hn
    | false=>rfl
   rw [hb,hf,Bool.and_false]
   rfl
 unfold packhorseref03_body
 by_cases hlt:(i:Int) < (S.length:Int)
 ·obtain ⟨c,g1,_,_⟩:=idxS_in (S:=S) (i:=(i:Int)) (by omega) hlt
  have hne:(c == (34:Int)) = false:=beq_eq_false_iff_ne.2 fun e=>hc (by rw [g1,e])
  simp only [br] at hit key ⊢
  simp only [decide_eq_true hlt,cond_true,g1,Option.bind_some,hne,cond_false]
  rw [hit]
  exact key
 ·simp only [br] at hit key ⊢
  simp only [decide_eq_false hlt,cond_false]
  rw [hit]
  exact key
end Go.Proofs.YtjcbpfhlgebgdaaDoor
namespace Go.Proofs.YtjcbpfhlgebgdaaDoor
open Go Go.Eng Go.RowKit Go.X Go.Seq
theorem qF_tot {S:List UInt8} (hS:S.length ≤ 1000000):∀ (k:Nat) (acc:List UInt8) (p:Int),0 ≤ p→p ≤ (S.length:Int)→(S.length:Int) - p < (k:Int) →
  ∃ r q,qF (S.length:Int) (nxF S) (esF S) k acc p = some (r,q)∧q ≤ (S.length:Int)
 | 0,acc,p,h0,h1,hk=>by omega
 | k + 1,acc,p,h0,h1,hk=>by
  unfold qF
  by_cases hp:p < (S.length:Int)
  ·rw [if_pos hp]
   obtain ⟨c,hc,g0,g1⟩:=idxS_in h0 hp
   have hn:nxF S p = some (c,p + 1):=by unfold nxF; rw [nxF_in hS h0 hp hc]; rfl
   rw [hn]
   simp only [Option.bind_some]
   by_cases e34:c = 34
   ·rw [if_pos e34]; exact ⟨_,_,rfl,by omega⟩
   ·rw [if_neg e34]
    by_cases e92:c = 92
    ·rw [if_pos e92]
     subst e92
     obtain ⟨d,b,q1,he,_⟩:=piece_esc hS h0 hp hc
     have hes:esF S (p + 1) = some ((d,b),q1):=by unfold esF; rw [if_pos (by omega),he]; rfl
     obtain ⟨_,hq1,hq2,_,_⟩:=esc_eq he (by omega)
     dsimp only at hq1 hq2
     rw [hes]
     simp only [Option.bind_some]
     cases b with
     | true=>rw [if_pos rfl]; exact qF_tot hS k _ q1 (by omega) hq2 (by omega)
     | false=>rw [if_neg (by simp)]; exact ⟨_,_,rfl,hq2⟩
    ·rw [if_neg e92]
     by_cases hr:32 ≤ c∧c < 127
     ·rw [if_pos hr]; exact qF_tot hS k _ (p + 1) (by omega) (by omega) (by omega)
     ·rw [if_neg hr]; exact ⟨_,_,rfl,by omega⟩
  ·rw [if_neg hp]; exact ⟨_,_,rfl,h1⟩
theorem bsOf_list (S:List UInt8):(bsOf S).data.toList = S:=by simp [bsOf]
theorem bsOf_size (S:List UInt8):(bsOf S).size = S.length:=List.size_toArray
theorem bsOf_get (S:List UInt8) (i:Nat):(bsOf S).data[i]? = S[i]?:=by simp [bsOf]
theorem qdF_tot {S:List UInt8} (hS:S.length ≤ 1000000) {p:Int} (h0:0 ≤ p) (h1:p ≤ (S.length:Int)):∃ a ok q,qdF (bsOf S) p = some ((a,ok),q)∧q ≤ (S.length:Int):=by
 obtain ⟨⟨a,ok⟩,q,h,hq⟩:=qF_tot hS (S.length + 1) [] p h0 h1 (by omega)
 refine ⟨a,ok,q,?_,hq⟩
 unfold qdF words_scanner_quoted
 rw [bsOf_list]
 dsimp only
 rw [if_pos ⟨hS,h0,h1⟩,h]
 rfl
theorem idxS_nat (S:List UInt8) (i:Nat):idxS S (i:Int) = (S[i]?).map fun b=>(b.toNat:Int):=by
 unfold idxS idx; rw [if_pos (by omega)]; rfl
theorem idxS_iff {S:List UInt8} {q:Int} (hq:0 ≤ q) {c:UInt8}:S[q.toNat]? = some c ↔ idxS S q = some (c.toNat:Int):=by
 unfold idxS idx
 rw [if_pos hq]
 cases S[q.toNat]? with
 | none=>simp
 | some x=>simp only [Option.map_some,Option.some.injEq]; exact ⟨fun e=>by rw [e],fun e=>UInt8.toNat_inj.1 (by omega)⟩
def endB (S:List UInt8) (q:Int):Bool:=decide ((S.length:Int) ≤ q) || decide (S[q.toNat]? = some 32)
theorem bd_plain {S:List UInt8} (hS:S.length ≤ 1000000) {p:Int} (h0:0 ≤ p) (h1:p ≤ (S.length:Int)) (hc:idxS S p ≠ some 34) :
  bdF (bsOf S) p = some (((S.drop p.toNat).take (scanL (S.drop p.toNat)),bareB ((S.drop p.toNat).take (scanL (S.drop p.toNat)))),((p.toNat + scanL (S.drop p.toNat):Nat):Int)):=by
 unfold bdF bodyF
 rw [bsOf_size,if_pos ⟨h0,h1⟩,bsOf_get,if_neg (fun h=>hc ((idxS_iff h0).1 h)),bsOf_list]
 rw [bareF_eq (by simp only [List.length_take,List.length_drop]; omega)]
 simp only [Option.map_some,Option.some.injEq,Prod.mk.injEq,true_and]
 omega
theorem body_eq {S:List UInt8} (hS:S.length ≤ 1000000) {p:Int} (h0:0 ≤ p) (h1:p ≤ (S.length:Int)) :
  ∃ t is q,bdF (bsOf S) p = some ((t,is),q)∧p ≤ q∧q ≤ (S.length:Int)∧(is = true→p < q)∧packhorseref03_body (S,p) = some (if is && endB S q then (t,q) else ([],-1)):=by
 have hb:∀ b,bdF (bsOf S) p = some b→p ≤ b.2∧(b.1.2 = true→p < b.2):=fun b h=>by
  obtain ⟨⟨t,is⟩,q⟩:=b
  have:=bdF_ge h
  exact ⟨this.2.1,this.2.2.1⟩
 by_cases hc:idxS S p = some 34
 ·have hp:p < (S.length:Int):=by
   unfold idxS idx at hc
   rw [if_pos h0] at hc
   by_cases hh:p < (S.length:Int)
   ·exact hh
   ·rw [List.getElem?_eq_none (by omega)] at hc; cases hc
  obtain ⟨a,ok,q,hq,hq1⟩:=qdF_tot hS (p:=p + 1) (by omega) (by omega)
  have hbd:bdF (bsOf S) p = some ((a,ok),q):=by
   unfold bdF bodyF
   rw [bsOf_size,if_pos ⟨h0,h1⟩,bsOf_get,if_pos ((idxS_iff h0).2 hc),hq]
  have h2:=hb _ hbd
  refine ⟨a,ok,q,hbd,h2.1,hq1,h2.2,?_⟩
  have hq0:0 ≤ q:=Int.le_trans h0 h2.1
  rw [body_quoted hS h0 hp hc hq hq1]
  unfold endB
  have:decide (idxS S q = some 32) = decide (S[q.toNat]? = some 32):=decide_eq_decide.2 (idxS_iff hq0 (c:=32)).symm
  rw [this]
 ·obtain ⟨i,rfl⟩:=Int.eq_ofNat_of_zero_le h0
  have hbp:=body_plain hS i (by omega) hc
  have hsc:=(scan_blank (S.drop i)).1
  have hbl:=blL_le (S.drop i)
  rw [List.length_drop] at hbl
  have hbd:bdF (bsOf S) (i:Int) = some (((S.drop i).take (scanL (S.drop i)),bareB ((S.drop i).take (scanL (S.drop i)))),((i + scanL (S.drop i):Nat):Int)):=by
   exact bd_plain hS h0 h1 hc
  have h2:=hb _ hbd
  refine ⟨_,_,_,hbd,h2.1,by omega,h2.2,?_⟩
  rw [hbp]
  unfold endB
  rw [show ((i + scanL (S.drop i):Nat):Int).toNat = i + scanL (S.drop i) from rfl]
  rw [List.getElem?_drop]
  have:decide (S[i + scanL (S.drop i)]? = none) = decide ((S.length:Int) ≤ ((i + scanL (S.drop i):Nat):Int)):=decide_eq_decide.2 (by rw [List.getElem?_eq_none_iff]; omega)
  rw [this]
end Go.Proofs.YtjcbpfhlgebgdaaDoor
namespace Go.Proofs.YtjcbpfhlgebgdaaDoor
open Go Go.Eng Go.RowKit Go.X Go.Seq
theorem tw_at (P:UInt8→Bool):∀ (l:List UInt8),(∀ j,j < (l.takeWhile P).length→∃ c,l[j]? = some c∧P c = true)∧(∀ c,l[(l.takeWhile P).length]? = some c→P c = false)
 | []=>⟨fun j h=>by simp at h,fun c h=>by simp at h⟩
 | x :: l=>by
  rw [List.takeWhile_cons]
  cases hx:P x with
  | false=>exact ⟨fun j h=>by simp at h,fun c h=>by simp at h; rw [← h]; exact hx⟩
  | true =>
   obtain ⟨h1,h2⟩:=tw_at P l
   refine ⟨fun j h=>?_,fun c h=>h2 c (by simpa using h)⟩
   cases j with
   | zero=>exact ⟨x,rfl,hx⟩
   | succ j=>exact h1 j (by simpa using h)
def keyP (c:UInt8):Bool:=!decide (c = 32) && !decide (c = 61) && !decide (c = 34)
def eL (l:List UInt8):Nat:=(l.takeWhile keyP).length
theorem eL_le (l:List UInt8):eL l ≤ l.length:=(List.takeWhile_sublist _).length_le
theorem key_loop {S:List UInt8} (hS:S.length ≤ 1000000) (F:Int→Option (Step Int Int))
  (hF:∀ i:Nat,i < S.length→F (i:Int) = some (if keyP (S[i]?.getD 0) then .next ((i:Int) + 1) else .done (i:Int))) (hE:F (S.length:Int) = some (.done (S.length:Int))) :
  ∀ (k i:Nat),i + k = S.length→iter F (i:Int) = some ((i + eL (S.drop i):Nat):Int)
 | 0,i,hi=>by
  have:i = S.length:=by omega
  subst this
  rw [iter_eq,hE,List.drop_eq_nil_of_le (by omega)]
  rfl
 | k + 1,i,hi=>by
  have hlt:i < S.length:=by omega
  rw [iter_eq,hF i hlt,List.getElem?_eq_getElem hlt,Option.getD_some,List.drop_eq_getElem_cons hlt]
  unfold eL
  rw [List.takeWhile_cons]
  cases hx:keyP S[i] with
  | false=>simp
  | true =>
   simp only [if_true]
   have:=key_loop hS F hF hE k (i + 1) (by omega)
   rw [show (i:Int) + 1 = ((i + 1:Nat):Int) by omega,this]
   simp only [List.length_cons]
   unfold eL
   congr 1
   omega
theorem eq_first {l:List UInt8} (h:l[eL l]? = some 61):Lib.indexByte l 61 = (eL l:Int):=by
 have hge:=Lib.indexByte_ge l 61
 by_cases hn:Lib.indexByte l 61 = -1
 ·exact absurd h (Lib.indexByte_none hn _)
 ·obtain ⟨o,ho⟩:=Int.eq_ofNat_of_zero_le (show 0 ≤ Lib.indexByte l 61 by omega)
  obtain ⟨h1,h2⟩:=Lib.indexByte_some ho
  have h3:¬ eL l < o:=fun hlt=>h2 _ hlt h
  have h4:¬ o < eL l:=fun hlt=>by
   obtain ⟨c,hc,hk⟩:=(tw_at keyP l).1 o hlt
   rw [h1] at hc
   cases hc
   exact absurd hk (by decide)
  rw [ho]
  have:o = eL l:=by omega
  rw [this]
theorem plain_before {l:List UInt8} (h:l[eL l]? = some 61):scanL l < l.length∧l[scanL l]? ≠ some 32:=by
 have hel:eL l < l.length:=(List.getElem?_eq_some_iff.1 h).1
 have hle:scanL l ≤ eL l:=by
  rcases Nat.lt_or_ge (eL l) (scanL l) with hlt | hge
  ·obtain ⟨c,hc,hk⟩:=(tw_at (fun c=>plainI (c.toNat:Int)) l).1 _ hlt
   rw [h] at hc
   cases hc
   exact absurd hk (by decide)
  ·exact hge
 refine ⟨by omega,fun h32=>?_⟩
 rcases Nat.lt_or_ge (scanL l) (eL l) with hlt | hge
 ·obtain ⟨c,hc,hk⟩:=(tw_at keyP l).1 _ hlt
  rw [h32] at hc
  cases hc
  exact absurd hk (by decide)
 ·have:scanL l = eL l:=by omega
  rw [this,h] at h32
  exact absurd h32 (by decide)
end Go.Proofs.YtjcbpfhlgebgdaaDoor
namespace Go.Proofs.YtjcbpfhlgebgdaaDoor
open Go Go.Eng Go.RowKit Go.X Go.Seq
def lowB (c:UInt8):Bool:=decide (97 ≤ c.toNat) && decide (c.toNat ≤ 122)
def okC (c:UInt8):Bool:=decide (c.toNat = 45) || (decide (48 ≤ c.toNat) && decide (c.toNat ≤ 57))
def nmA:Nat→List UInt8→Bool
 | _,[]=>true
 | i,c :: l=>(lowB c || (decide (i ≠ 0) && okC c)) && nmA (i + 1) l
def nameB (l:List UInt8):Bool:=nmA 0 l && (decide (1 ≤ l.length) && decide (l.length ≤ 20))
theorem nmA_key:∀ {i:Nat} {l:List UInt8},nmA i l = true→∀ c ∈ l,keyP c = true
 | i,[],_,c,h=>by cases h
 | i,x :: l,h,c,hc=>by
  unfold nmA at h
  rw [Bool.and_eq_true] at h
  rcases List.mem_cons.1 hc with rfl | hc
  ·have h1:=h.1
   unfold lowB okC at h1
   unfold keyP
   have a1:c ≠ 32:=by rintro rfl; exact absurd h1 (by simp)
   have a2:c ≠ 61:=by rintro rfl; exact absurd h1 (by simp)
   have a3:c ≠ 34:=by rintro rfl; exact absurd h1 (by simp)
   rw [decide_eq_false a1,decide_eq_false a2,decide_eq_false a3]; rfl
  ·exact nmA_key h.2 c hc
theorem name_loop {s:List UInt8} (F:Int→Option (Step Int (Bool ⊕ Unit)))
  (hF:∀ (i:Nat) (h:i < s.length),F (i:Int) = some (if lowB s[i] || (decide (i ≠ 0) && okC s[i]) then .next ((i:Int) + 1) else .done (.inl false))) (hE:F (s.length:Int) = some (.done (.inr ()))) :
  ∀ (k i:Nat),i + k = s.length→iter F (i:Int) = some (if nmA i (s.drop i) then .inr () else .inl false)
 | 0,i,hi=>by
  have:i = s.length:=by omega
  subst this
  rw [iter_eq,hE,List.drop_eq_nil_of_le (Nat.le_refl _)]
  rfl
 | k + 1,i,hi=>by
  have hlt:i < s.length:=by omega
  rw [iter_eq,hF i hlt,List.drop_eq_getElem_cons hlt]
  unfold nmA
  cases hx:(lowB s[i] || (decide (i ≠ 0) && okC s[i])) with
  | false=>simp
  | true =>
   have:=name_loop F hF hE k (i + 1) (by omega)
   simp only [if_true,Bool.true_and]
   rw [show (i:Int) + 1 = ((i + 1:Nat):Int) by omega,this]
theorem name_step {α:Type} (i:Nat) (c:UInt8) (x y:α) :
  (bif decide ((97:Int) ≤ (c.toNat:Int)) then
   bif !decide ((c.toNat:Int) ≤ (122:Int)) then
    bif (i:Int) == (0:Int) then some x
    else bif (c.toNat:Int) != (45:Int) then bif decide ((c.toNat:Int) < (48:Int)) then some x else bif decide ((57:Int) < (c.toNat:Int)) then some x else some y else some y
   else some y
  else
   bif (i:Int) == (0:Int) then some x
   else bif (c.toNat:Int) != (45:Int) then bif decide ((c.toNat:Int) < (48:Int)) then some x else bif decide ((57:Int) < (c.toNat:Int)) then some x else some y else some y) =
  some (if lowB c || (decide (i ≠ 0) && okC c) then y else x):=by
 unfold lowB okC
 have e0:((i:Int) == (0:Int)) = decide (i = 0):=by
  by_cases h:i = 0
  ·subst h; rfl
  ·rw [decide_eq_false h]; exact beq_eq_false_iff_ne.2 (by omega)
 have e1:((c.toNat:Int) != (45:Int)) = !decide (c.toNat = 45):=by
  by_cases h:c.toNat = 45
  ·rw [h]; rfl
  ·rw [decide_eq_false h]; exact bne_iff_ne.2 (by omega)
 have e2:decide ((97:Int) ≤ (c.toNat:Int)) = decide (97 ≤ c.toNat):=decide_eq_decide.2 (by omega)
 have e3:decide ((c.toNat:Int) ≤ (122:Int)) = decide (c.toNat ≤ 122):=decide_eq_decide.2 (by omega)
 have e4:decide ((c.toNat:Int) < (48:Int)) = !decide (48 ≤ c.toNat):=by rw [← decide_not]; exact decide_eq_decide.2 (by omega)
 have e5:decide ((57:Int) < (c.toNat:Int)) = !decide (c.toNat ≤ 57):=by rw [← decide_not]; exact decide_eq_decide.2 (by omega)
 rw [e0,e1,e2,e3,e4,e5,show decide (i ≠ 0) = !decide (i = 0) from decide_not]
 cases decide (97 ≤ c.toNat) <;> cases decide (c.toNat ≤ 122) <;> cases decide (i = 0) <;> cases decide (c.toNat = 45) <;> cases decide (48 ≤ c.toNat) <;> cases decide (c.toNat ≤ 57) <;> rfl
theorem name_eq {l:List UInt8} (hl:l.length ≤ 1000000):words_Name l = some (nameB l):=by
 unfold words_Name
 have hlen:(bytesI l).length = l.length:=by simp [bytesI]
 rw [hlen]
 generalize hG:(fun x_2:Int=>br (decide (x_2 < (l.length:Int))) _ _) = F
 have h0:=name_loop (s:=l) F (fun i hi=>by
  subst hG
  have hidx:idx (bytesI l) (i:Int) = some ((l[i].toNat:Int)):=by
   rw [idxS_bytes,idxS_nat,List.getElem?_eq_getElem hi]; rfl
  have hadd:addI .i64 (i:Int) (1:Int) = some ((i:Int) + 1):=addI_ok (by omega)
  simp only [hidx,decide_eq_true (show (i:Int) < (l.length:Int) by omega),br,cond_true,Option.bind_some,hadd]
  exact name_step i l[i] _ _) (by
  subst hG
  dsimp only
  rw [decide_eq_false (by omega)]; rfl) l.length 0 (by omega)
 rw [List.drop_zero] at h0
 simp only [Int.natCast_zero] at h0
 rw [h0]
 unfold nameB
 cases hn:nmA 0 l with
 | false=>rfl
 | true =>
  simp only [if_true,Option.bind_some,Bool.true_and]
  have e1:decide ((1:Int) ≤ (l.length:Int)) = decide (1 ≤ l.length):=decide_eq_decide.2 (by omega)
  have e2:decide ((l.length:Int) ≤ (20:Int)) = decide (l.length ≤ 20):=decide_eq_decide.2 (by omega)
  rw [e1,e2]
  cases decide (1 ≤ l.length) <;> cases decide (l.length ≤ 20) <;> rfl
theorem name_first {l:List UInt8} {o:Nat} (ho:Lib.indexByte l 61 = (o:Int)) (hn:nameB (l.take o) = true):l[eL l]? = some 61:=by
 obtain ⟨h1,_⟩:=Lib.indexByte_some ho
 unfold nameB at hn
 rw [Bool.and_eq_true] at hn
 have hk:=nmA_key hn.1
 have hol:o < l.length:=(List.getElem?_eq_some_iff.1 h1).1
 rcases Nat.lt_trichotomy (eL l) o with hlt | heq | hgt
 ·have hel:eL l < l.length:=by omega
  have hc:=List.getElem?_eq_getElem hel
  have hf:=(tw_at keyP l).2 _ hc
  have hm:l[eL l] ∈ l.take o:=List.mem_of_getElem? (i:=eL l) (by rw [List.getElem?_take_of_lt hlt]; exact hc)
  rw [hk _ hm] at hf
  cases hf
 ·rw [heq]; exact h1
 ·obtain ⟨c,hc,hf⟩:=(tw_at keyP l).1 o hgt
  rw [h1] at hc
  cases hc
  exact absurd hf (by decide)
theorem nameF_eq {l:List UInt8} (hl:l.length ≤ 1000000):nameF l = some (nameB l):=by
 unfold nameF; rw [if_pos hl,name_eq hl]
theorem slc_nat {S:List UInt8} {i j:Nat} (hij:i ≤ j) (hj:j ≤ S.length):slc S (i:Int) (j:Int) = some ((S.drop i).take (j - i)):=by
 unfold slc
 rw [if_pos ⟨by omega,by omega,by omega⟩]
 congr 1
 rw [show ((j:Int)).toNat = j from rfl,show ((i:Int)).toNat = i from rfl,List.drop_take]
theorem word_eq {S:List UInt8} (hS:S.length ≤ 1000) {p:Int} (h0:0 ≤ p) (h1:p ≤ (S.length:Int)) :
  ∃ w b q w',wdF (bsOf S) p = some ((w,b),q)∧q ≤ (S.length:Int)∧packhorseref03_word (S,p) = some (if b then ((⟨w.1,w.2.1,w.2.2⟩:Word),q) else (w',-1)):=by
 obtain ⟨i,rfl⟩:=Int.eq_ofNat_of_zero_le h0
 have hit:=key_loop (S:=S) (by omega) (fun end_3=>br (decide (end_3 < (S.length:Int))) ((idxS S end_3).bind fun x_4=>br (x_4 != (32:Int)) ((idxS S end_3).bind fun x_5=>br (x_5 != (61:Int)) ((idxS S end_3).bind fun x_6=>br (x_6 != (34:Int)) ((addI .i64 end_3 (1:Int)).bind fun x_7=>some (.next x_7)) (some (.done end_3))) (some (.done end_3))) (some (.done end_3))) (some (.done end_3)))
  (fun j hj=>by
   simp only [decide_eq_true (show (j:Int) < (S.length:Int) by omega),idxS_nat,List.getElem?_eq_getElem hj,Option.map_some,Option.bind_some,br,cond_true,addI_ok (a:=(j:Int)) (b:=1) (by omega),Option.getD_some,keyP]
   have e:∀ n:Nat,n < 256→((S[j].toNat:Int) != (n:Int)) = !decide (S[j] = UInt8.ofNat n):=fun n hn=>by
    by_cases h:S[j] = UInt8.ofNat n
    ·rw [decide_eq_true h,h,UInt8.toNat_ofNat',Nat.mod_eq_of_lt hn]; simp
    ·rw [decide_eq_false h]; exact bne_iff_ne.2 (u8_ne hn h)
   rw [show ((S[j].toNat:Int) != (32:Int)) = !decide (S[j] = 32) from e 32 (by omega),show ((S[j].toNat:Int) != (61:Int)) = !decide (S[j] = 61) from e 61 (by omega),show ((S[j].toNat:Int) != (34:Int)) = !decide (S[j] = 34) from e 34 (by omega)]
   cases decide (S[j] = 32) <;> cases decide (S[j] = 61) <;> cases decide (S[j] = 34) <;> rfl)
  (by simp only [decide_eq_false (show ¬ (S.length:Int) < (S.length:Int) by omega),br,cond_false]) (S.length - i) i (by omega)
 have hel:=eL_le (S.drop i)
 rw [List.length_drop] at hel
 have hil:i ≤ S.length:=by omega
 have hword:∀ (q:Int) (b:Bool) (r:(List UInt8 × Bool) × Int),(if b && (decide ((S.length:Int) ≤ q) || decide ((bsOf S).data[q.toNat]? = some 32)) then (([]:List UInt8),q) else ([],-1)) = if b && endB S q then ([],q) else ([],-1):=fun q b r=>by rw [bsOf_get]; rfl
 have gw:(packhorseref03_word (S,(i:Int)) = (br (decide (((i + eL (S.drop i):Nat):Int) < (S.length:Int)))
  ((idxS S ((i + eL (S.drop i):Nat):Int)).bind fun x_9 =>
  br (x_9 == (61:Int))
   ((slc S (i:Int) ((i + eL (S.drop i):Nat):Int)).bind fun x_10 =>
   (packhorseref03_Name x_10).bind fun x_11 =>
   br (!x_11)
    (some ((⟨(i:Int),([]:List UInt8),([]:List UInt8)⟩:Word),(-1:Int)))
    ((slc S (i:Int) ((i + eL (S.drop i):Nat):Int)).bind fun x_12 =>
    (addI .i64 ((i + eL (S.drop i):Nat):Int) (1:Int)).bind fun x_13 =>
    (packhorseref03_body (S,x_13)).bind fun z =>
    some ((⟨(i:Int),x_12,z.1⟩:Word),z.2)))
   ((packhorseref03_body (S,(i:Int))).bind fun z =>
   some ((⟨(i:Int),([]:List UInt8),z.1⟩:Word),z.2)))
  ((packhorseref03_body (S,(i:Int))).bind fun z =>
  some ((⟨(i:Int),([]:List UInt8),z.1⟩:Word),z.2)))):=by
  unfold packhorseref03_word
  dsimp only
  rw [hit]
  rfl
 rw [gw]
 clear gw hit
 obtain ⟨t,is,q,b1,b2,b3,b4,b5⟩:=body_eq (S:=S) (by omega) h0 h1
 have hwd:∀ (o:Nat),Lib.indexByte (S.drop i) 61 = (o:Int)→nameB ((S.drop i).take o) = false→wdF (bsOf S) (i:Int) = some ((((i:Int),[],t),is && endB S q),q):=fun o ho hn=>by
  unfold wdF wordF
  rw [bsOf_size,if_pos ⟨h0,h1⟩,bsOf_list,show ((i:Int)).toNat = i from rfl,ho,if_pos (by omega),show ((o:Int)).toNat = o from rfl,nameF_eq (by simp only [List.length_take,List.length_drop]; omega),hn]
  simp only [Option.bind_some,b1,bsOf_get]
  rfl
 have hwd2:Lib.indexByte (S.drop i) 61 = -1→wdF (bsOf S) (i:Int) = some ((((i:Int),[],t),is && endB S q),q):=fun ho=>by
  unfold wdF wordF
  rw [bsOf_size,if_pos ⟨h0,h1⟩,bsOf_list,show ((i:Int)).toNat = i from rfl,ho,if_neg (by decide)]
  simp only [Option.bind_some,b1,bsOf_get]
  rfl
 have hge:=Lib.indexByte_ge (S.drop i) 61
 by_cases h61:(S.drop i)[eL (S.drop i)]? = some 61
 ·have hix:=eq_first h61
  have hel2:eL (S.drop i) < (S.drop i).length:=(List.getElem?_eq_some_iff.1 h61).1
  rw [List.length_drop] at hel2
  have hidx:idxS S ((i + eL (S.drop i):Nat):Int) = some 61:=by
   rw [idxS_nat,← List.getElem?_drop,h61]; rfl
  rw [hidx,decide_eq_true (by omega),slc_nat (by omega) (by omega),Nat.add_sub_cancel_left]
  simp only [br,cond_true,Option.bind_some,refName_eq,name_eq (l:=(S.drop i).take (eL (S.drop i))) (by simp only [List.length_take,List.length_drop]; omega)]
  rw [show ((61:Int) == (61:Int)) = true from rfl]
  simp only [cond_true]
  cases hnb:nameB ((S.drop i).take (eL (S.drop i))) with
  | true =>
   simp only [Bool.not_true,cond_false]
   rw [addI_ok (by omega)]
   obtain ⟨t2,is2,q2,c1,c2,c3,c4,c5⟩:=body_eq (S:=S) (by omega) (p:=((i + eL (S.drop i):Nat):Int) + 1) (by omega) (by omega)
   refine ⟨((i:Int),(S.drop i).take (eL (S.drop i)),t2),is2 && endB S q2,q2,(⟨(i:Int),(S.drop i).take (eL (S.drop i)),[]⟩:Word),?_,c3,?_⟩
   ·unfold wdF wordF
    rw [bsOf_size,if_pos ⟨h0,h1⟩,bsOf_list,show ((i:Int)).toNat = i from rfl,hix,if_pos (by omega),show ((eL (S.drop i):Nat):Int).toNat = eL (S.drop i) from rfl,nameF_eq (by simp only [List.length_take,List.length_drop]; omega),hnb]
    simp only [Option.bind_some,if_true]
    rw [show (i:Int) + ((eL (S.drop i):Int) + 1) = ((i + eL (S.drop i):Nat):Int) + 1 by omega,c1]
    simp only [Option.bind_some,bsOf_get]
    rfl
   ·simp only [Option.bind_some]
    rw [c5]
    simp only [Option.bind_some]
    cases (is2 && endB S q2) <;> rfl
  | false =>
   simp only [Bool.not_false,cond_true]
   refine ⟨((i:Int),[],t),is && endB S q,q,(⟨(i:Int),[],[]⟩:Word),hwd _ hix hnb,b3,?_⟩
   have hpb:=plain_before h61
   have hne:idxS S (i:Int) ≠ some 34:=fun hc=>by
    have hc':=(idxS_iff h0 (c:=34)).2 hc
    rw [show ((i:Int)).toNat = i from rfl] at hc'
    have h3:(S.drop i)[0]? = some 34:=by rw [List.getElem?_drop]; exact hc'
    have h4:eL (S.drop i) = 0:=by
     rcases Nat.eq_zero_or_pos (eL (S.drop i)) with h | h
     ·exact h
     ·obtain ⟨c,hc,hk⟩:=(tw_at keyP (S.drop i)).1 0 h
      rw [h3] at hc
      cases hc
      exact absurd hk (by decide)
    rw [h4,h3] at h61
    exact absurd h61 (by decide)
   have hbp:=bd_plain (S:=S) (by omega) h0 h1 hne
   rw [b1] at hbp
   simp only [Option.some.injEq,Prod.mk.injEq] at hbp
   obtain ⟨⟨rfl,rfl⟩,rfl⟩:=hbp
   have hend:endB S ((i + scanL (S.drop i):Nat):Int) = false:=by
    have hl:=hpb.1
    rw [List.length_drop] at hl
    unfold endB
    rw [decide_eq_false (by omega),show ((i + scanL (S.drop i):Nat):Int).toNat = i + scanL (S.drop i) from rfl,← List.getElem?_drop,decide_eq_false hpb.2]
    rfl
   rw [show (((i:Int)).toNat) = i from rfl] at *
   rw [hend,Bool.and_false]
   rfl
 ·have hnb:∀ o:Nat,Lib.indexByte (S.drop i) 61 = (o:Int)→nameB ((S.drop i).take o) = false:=fun o ho=>by
   cases hnb:nameB ((S.drop i).take o) with
   | false=>rfl
   | true=>exact absurd (name_first ho hnb) h61
  refine ⟨((i:Int),[],t),is && endB S q,q,(⟨(i:Int),[],[]⟩:Word),?_,b3,?_⟩
  ·by_cases hn:Lib.indexByte (S.drop i) 61 = -1
   ·exact hwd2 hn
   ·obtain ⟨o,ho⟩:=Int.eq_ofNat_of_zero_le (show 0 ≤ Lib.indexByte (S.drop i) 61 by omega)
    exact hwd o ho (hnb o ho)
  ·have key:((packhorseref03_body (S,(i:Int))).bind fun z=>some ((⟨(i:Int),([]:List UInt8),z.1⟩:Word),z.2)) = some (if is && endB S q then ((⟨(i:Int),[],t⟩:Word),q) else ((⟨(i:Int),[],[]⟩:Word),-1)):=by
    rw [b5]
    simp only [Option.bind_some]
    cases (is && endB S q) <;> rfl
   by_cases hlt:((i + eL (S.drop i):Nat):Int) < (S.length:Int)
   ·rw [decide_eq_true hlt]
    have hlt':i + eL (S.drop i) < S.length:=by omega
    rw [idxS_nat,List.getElem?_eq_getElem hlt']
    simp only [br,cond_true,Option.map_some,Option.bind_some]
    have h61':¬ S[i + eL (S.drop i)] = 61:=fun h=>h61 (by rw [List.getElem?_drop,List.getElem?_eq_getElem hlt',h])
    rw [show ((S[i + eL (S.drop i)].toNat:Int) == (61:Int)) = false from beq_eq_false_iff_ne.2 (u8_ne (n:=61) (by omega) h61')]
    simp only [cond_false]
    exact key
   ·rw [decide_eq_false hlt]
    simp only [br,cond_false]
    exact key
end Go.Proofs.YtjcbpfhlgebgdaaDoor
namespace Go.Proofs.YtjcbpfhlgebgdaaDoor
open Go Go.Eng Go.RowKit Go.X Go.Seq
theorem row_eq {S:List UInt8} (hS:S.length ≤ 1000):∀ (k:Nat) (acc:List Wd) (p:Int),0 ≤ p→p ≤ (S.length:Int)→(S.length:Int) - p < (k:Int) →
  ∃ ws,wsF (bsOf S) (wdF (bsOf S)) k p = some ws∧(ws.length:Int) ≤ (S.length:Int) - p∧(∀ x ∈ ws,(0 ≤ x.1.1∧x.1.1 ≤ (S.length:Int))∧x.1.2.1.length ≤ S.length + 1∧x.1.2.2.length ≤ S.length + 1) ∧
   ((badF ws = none∧rrF (bsOf S) (rwF S) k acc p = some (acc++ws.map (fun x=>x.1),-1)) ∨ (∃ w,badF ws = some w∧0 ≤ w.1∧w.1 ≤ (S.length:Int)∧rrF (bsOf S) (rwF S) k acc p = some ([],w.1)))
 | 0,acc,p,h0,h1,hk=>by omega
 | k + 1,acc,p,h0,h1,hk=>by
  rw [wsF,rrF,bsOf_size]
  by_cases hp:p < (S.length:Int)
  ·rw [if_pos hp,if_pos hp,bsOf_get]
   have hlt:p.toNat < S.length:=by omega
   obtain ⟨c,hc⟩:∃ c,S[p.toNat]? = some c:=⟨_,List.getElem?_eq_getElem hlt⟩
   rw [hc]
   simp only [Option.bind_some]
   by_cases h32:c = 32
   ·rw [if_pos h32,if_neg (by rw [h32]; decide),if_pos h32]
    obtain ⟨ws,a1,a2,a3,a4⟩:=row_eq hS k acc (p + 1) (by omega) (by omega) (by omega)
    exact ⟨ws,a1,by omega,a3,a4⟩
   ·rw [if_neg h32]
    by_cases h35:c = 35
    ·rw [if_pos h35,if_pos h35]
     exact ⟨[],rfl,(by simp; omega),fun x hx=>(by cases hx),.inl ⟨rfl,by simp⟩⟩
    ·rw [if_neg h35,if_neg h35,if_neg h32]
     obtain ⟨w,b,q,w',e1,e2,e3⟩:=word_eq hS h0 h1
     have o1:=wordF_open e1
     have o2:=wdF_len e1
     rw [bsOf_size] at o2
     have hx:(0 ≤ w.1∧w.1 ≤ (S.length:Int))∧w.2.1.length ≤ S.length + 1∧w.2.2.length ≤ S.length + 1:=⟨by have:=o1.2.2.1; dsimp only at this; omega,o2.1,o2.2⟩
     have hrw:rwF S p = some (if b then (w,q) else ((w'.At,w'.Key,w'.Text),-1)):=by
      unfold rwF
      rw [if_pos hS,e3]
      cases b with
      | true =>
       have:=wdF_lt e1 h0
       simp only [Option.bind_some,if_true]
       rw [if_pos (.inr this)]
      | false=>rfl
     rw [e1,hrw]
     simp only [Option.bind_some]
     cases b with
     | true =>
      have hlt2:=wdF_lt e1 h0
      simp only [if_true]
      rw [if_neg (by omega)]
      obtain ⟨ws,a1,a2,a3,a4⟩:=row_eq hS k (acc++[w]) q (by omega) e2 (by omega)
      rw [a1]
      refine ⟨(w,true) :: ws,rfl,by simp only [List.length_cons]; omega,fun x hx'=>?_,?_⟩
      ·rcases List.mem_cons.1 hx' with rfl | hx'
       ·exact hx
       ·exact a3 x hx'
      ·rcases a4 with ⟨b1,b2⟩ | ⟨z,b1,b2,b3,b4⟩
       ·exact .inl ⟨b1,by rw [b2]; simp⟩
       ·exact .inr ⟨z,b1,b2,b3,b4⟩
     | false =>
      refine ⟨[(w,false)],rfl,by simp; omega,fun x hx'=>?_,.inr ⟨w,rfl,hx.1.1,hx.1.2,?_⟩⟩
      ·rcases List.mem_cons.1 hx' with rfl | hx'
       ·exact hx
       ·cases hx'
      ·have:w.1 = p:=o1.2.2.1
       rw [this]
       rfl
  ·rw [if_neg hp,if_neg hp]
   exact ⟨[],rfl,(by simp; omega),fun x hx=>(by cases hx),.inl ⟨rfl,by simp⟩⟩
def okWs (l:List Wd):Prop:=l.length ≤ 1000∧∀ x ∈ l,x.2.1.length ≤ 1001∧x.2.2.length ≤ 1001
theorem line_eq {l:List UInt8} (hl:l.length ≤ 1000):∃ ws,lineF l = some ws∧(∀ a,okWs (ws.map fun x=>shW a x.1))∧((badF ws = none∧rowG l = some (ws.map (fun x=>x.1),-1)) ∨ (∃ w,badF ws = some w∧0 ≤ w.1∧rowG l = some ([],w.1))):=by
 obtain ⟨ws,a1,a2,a3,a4⟩:=row_eq hl (l.length + 1) [] 0 (Int.le_refl _) (by omega) (by omega)
 refine ⟨ws,a1,fun a=>⟨by simp only [List.length_map]; omega,fun x hx=>?_⟩,?_⟩
 ·obtain ⟨y,hy,rfl⟩:=List.mem_map.1 hx
  have:=(a3 y hy).2
  show y.1.2.1.length ≤ 1001∧y.1.2.2.length ≤ 1001
  omega
 rcases a4 with ⟨b1,b2⟩ | ⟨z,b1,b2,b3,b4⟩
 ·refine .inl ⟨b1,?_⟩
  unfold rowG
  rw [b2]
  simp only [Option.bind_some,List.nil_append]
  have hg:∀ x ∈ ws.map (fun x=>x.1),(0 ≤ x.1∧x.1 ≤ 1000)∧x.2.1.length ≤ 1001∧x.2.2.length ≤ 1001:=fun x hx=>by
   obtain ⟨y,hy,rfl⟩:=List.mem_map.1 hx
   have:=a3 y hy
   omega
  rw [if_pos ⟨(by show (-1:Int) ≤ -1; decide),(by show (-1:Int) ≤ 1000; decide),(by simp only [List.length_map]; omega),hg⟩]
 ·refine .inr ⟨z,b1,b2,?_⟩
  unfold rowG
  rw [b4]
  simp only [Option.bind_some]
  rw [if_pos ⟨by show -1 ≤ z.1; omega,by show z.1 ≤ 1000; omega,by simp,fun x hx=>by cases hx⟩]
theorem rows_eq:∀ (ps:List (List UInt8)) (o:List (Int × List Wd)) (a:Int),(∀ r ∈ o,r.2 ≠ []∧okWs r.2)→∃ r,rowsF lineF ps o a = some r∧refRowsF rowG ps o a = some r∧r.1.length ≤ o.length + ps.length∧(∀ x ∈ r.1,x.2 ≠ []∧okWs x.2)∧(r.2.1 ≠ 0→r.1 = [])
 | [],o,a,ho=>⟨_,rfl,rfl,by simp,ho,fun h=>absurd rfl h⟩
 | p :: ps,o,a,ho=>by
  rw [rowsF,refRowsF]
  by_cases hp:1000 < p.length
  ·rw [if_pos hp,if_pos hp]
   exact ⟨_,rfl,rfl,(by simp),fun x hx=>(by cases hx),fun _=>rfl⟩
  ·rw [if_neg hp,if_neg hp]
   obtain ⟨ws,h1,hws,⟨h2,h3⟩ | ⟨w,h2,h3,h4⟩⟩:=line_eq (l:=p) (by omega)
   ·rw [h1,h3]
    simp only [Option.bind_some,h2]
    rw [if_neg (show ¬ (0:Int) ≤ -1 by decide)]
    have e1:(ws.map (fun x=>x.1) = []) = (ws = []):=propext List.map_eq_nil_iff
    simp only [e1,List.map_map]
    have e2:(fun x:Wd × Bool=>shW a x.1) = shW a ∘ fun x=>x.1:=rfl
    rw [e2]
    obtain ⟨r,r1,r2,r3,r4,r5⟩:=rows_eq ps (if ws = [] then o else o++[(a,ws.map (shW a ∘ fun x=>x.1))]) (a + (p.length + 1)) (fun r hr=>by
     split at hr
     ·exact ho r hr
     ·rename_i hne
      rcases List.mem_append.1 hr with hr | hr
      ·exact ho r hr
      ·simp only [List.mem_singleton] at hr
       subst hr
       exact ⟨by simpa using hne,by have:=hws a; rw [e2,← List.map_map] at this; simpa [List.map_map] using this⟩)
    refine ⟨r,?_,?_,?_,r4,r5⟩
    ·exact r1
    ·exact r2
    split at r3
    ·simp only [List.length_cons]; omega
    ·simp only [List.length_append,List.length_cons,List.length_nil] at r3 ⊢; omega
   ·rw [h1,h4]
    simp only [Option.bind_some,h2]
    rw [if_pos h3,Int.add_comm]
    exact ⟨_,rfl,rfl,(by simp),fun x hx=>(by cases hx),fun _=>rfl⟩
theorem pieces_len (c:UInt8):∀ l:List UInt8,(pieces c l).length ≤ l.length + 1
 | []=>Nat.le_refl _
 | x :: l=>by
  have:=pieces_len c l
  unfold pieces
  split
  ·simp; omega
  ·split
   ·rename_i p ps h
    rw [h] at this
    simp at this ⊢; omega
   ·simp
def okRow (l:List Word):Prop:=l.length ≤ 1000∧∀ x ∈ l,x.Key.length ≤ 1001∧x.Text.length ≤ 1001
theorem Rows_eq (x:List UInt8):∃ r,words_Rows x = some r∧packhorseref03_Rows x = some r∧r.1.length ≤ x.length + 1∧(∀ y ∈ r.1,y.Words ≠ []∧okRow y.Words)∧(r.2.Err ≠ 0→r.1 = []):=by
 unfold words_Rows packhorseref03_Rows
 by_cases hx:20000 < x.length
 ·rw [if_pos hx,if_pos hx]
  exact ⟨_,rfl,rfl,(by simp),fun y hy=>(by cases hy),fun _=>rfl⟩
 ·rw [if_neg hx,if_neg hx]
  obtain ⟨r,r1,r2,r3,r4,r5⟩:=rows_eq (pieces 10 x) [] 0 (fun r hr=>by cases hr)
  rw [r1,r2]
  refine ⟨_,rfl,rfl,?_,fun y hy=>?_,fun h=>?_⟩
  ·have:=pieces_len 10 x
   simp only [List.length_map,List.length_nil] at r3 ⊢; omega
  ·obtain ⟨z,hz,rfl⟩:=List.mem_map.1 hy
   have:=r4 z hz
   obtain ⟨t1,t2,t3⟩:=this
   unfold mkRow
   refine ⟨by simpa using t1,by simpa using t2,fun x hx=>?_⟩
   obtain ⟨v,hv,rfl⟩:=List.mem_map.1 hx
   exact t3 v hv
  ·have h':r.2.1 ≠ 0:=h
   show r.1.map mkRow = []
   rw [r5 h']; rfl
end Go.Proofs.YtjcbpfhlgebgdaaDoor
