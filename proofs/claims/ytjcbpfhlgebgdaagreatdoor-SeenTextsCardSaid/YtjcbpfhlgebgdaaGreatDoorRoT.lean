import Derived.Test.YtjcbpfhlgebgdaaGreatDoorRoR
open Option.some renaming injEq -> zuf
open Nat renaming le_succ_of_le -> zuk
set_option linter.unusedSimpArgs false
set_option linter.unusedVariables false
namespace Go.Seq
open Go.RowKit Go.Shelf Go.Proofs
def z8 (rowL:List UInt8->Option (List Wd × Int)):List (List UInt8)->List (Int × List Wd)->Int->Option (List (Int × List Wd) × Int × Int)
 | [],out,_=>some (out,0,0)
 | p :: ps,out,a=>if 1000 < p.length then some ([],4,a) else (rowL p).bind fun r =>
   if 0 <= r.2 then some ([],3,a + r.2) else z8 rowL ps (if r.1 = [] then out else out++[(a,r.1.map (shW a))]) (a + (p.length + 1))
def nlL (l:List UInt8):Nat:=(l.takeWhile fun c=>!decide (c = 10)).length
theorem zpE:∀ (l:List UInt8) (j:Nat),(j < nlL l->∃ h:j < l.length,¬ l[j] = 10)/\(j = nlL l->j <= l.length/\∀ h:j < l.length,l[j] = 10)
 | [],j=>⟨fun h=>absurd h (by simp [nlL]),fun h=>⟨by simp [nlL] at h; omega,fun h2=>absurd h2 (by simp)⟩⟩
 | x :: l,j=>by
  unfold nlL
  rw [List.takeWhile_cons]
  by_cases hx:x = 10
  ·rw [if_neg (by simp [hx])]
   refine ⟨fun h=>absurd h (by simp),fun h=>?_⟩
   obtain rfl:j = 0:=by simpa using h
   exact ⟨Nat.zero_le _,fun _=>by simpa using hx⟩
  ·rw [if_pos (by simp [hx])]
   cases j with
   | zero=>exact ⟨fun _=>⟨by simp,by simpa using hx⟩,fun h=>absurd h (by simp)⟩
   | succ j =>
    obtain ⟨h1,h2⟩:=zpE l j
    refine ⟨fun h=>?_,fun h=>?_⟩
    ·obtain ⟨q1,q2⟩:=h1 (by simpa [nlL] using h)
     exact ⟨by simp; omega,by simpa using q2⟩
    ·obtain ⟨q1,q2⟩:=h2 (by simpa [nlL] using h)
     exact ⟨by simp; omega,fun h=>by have:=q2 (by simpa using h); simpa using this⟩
theorem zd0:∀ (l:List UInt8),(nlL l = l.length->yF 10 l = [l])/\(nlL l < l.length->yF 10 l = l.take (nlL l) :: yF 10 (l.drop (nlL l + 1)))
 | []=>⟨fun _=>rfl,fun h=>absurd h (by simp [nlL])⟩
 | x :: l=>by
  obtain ⟨h1,h2⟩:=zd0 l
  unfold nlL
  rw [List.takeWhile_cons]
  by_cases hx:x = 10
  ·rw [if_neg (by simp [hx])]
   refine ⟨fun h=>absurd h (by simp),fun _=>?_⟩
   conv=>lhs; unfold yF
   rw [if_pos hx]
   rfl
  ·rw [if_pos (by simp [hx])]
   refine ⟨fun h=>?_,fun h=>?_⟩
   ·conv=>lhs; unfold yF
    rw [if_neg hx,h1 (by simpa [nlL] using h)]
   ·conv=>lhs; unfold yF
    rw [if_neg hx,h2 (by simpa [nlL] using h)]
    rfl
theorem zgf {W:World} {base:Nat} {e:TypeId} {size:Nat} {g n cap:Nat} {xs:List Value} (h:W.ownsRow base e size (.slice (some ⟨g,0,none⟩) n cap) n xs) {j:Nat} (hj:j < xs.length) (u:Value) :
  (W.setCell ⟨g,j,none⟩ u).ownsRow base e size (.slice (some ⟨g,0,none⟩) n cap) n (xs.set j u):=by
 obtain ⟨hl,⟨h0,_⟩ | ⟨g',cap',cur,hv,hb,hh,hc,hm,hs,ht⟩⟩:=h
 ·cases h0
 ·cases hv
  refine ⟨by simpa using hl,.inr ⟨g,cap,cur.setIfInBounds j u,rfl,hb,heap_setCell_same _ _ j _ _ u hh,hc,hm,by simpa using hs,?_⟩⟩
  rw [Array.toList_setIfInBounds,List.take_set,ht]
theorem zpF {W:World} {base:Nat} {e:TypeId} {size:Nat} {g n cap:Nat} {xs:List Value} (h:W.ownsRow base e size (.slice (some ⟨g,0,none⟩) n cap) n xs) {j:Nat} {z:Value} (hz:xs[j]? = some z):W.cell? ⟨g,j,none⟩ = some z/\W.frozen? ⟨g,j,none⟩ = false:=by
 obtain ⟨hl,⟨h0,_⟩ | ⟨g',cap',cur,hv,hb,hh,hc,hm,hs,ht⟩⟩:=h
 ·cases h0
 ·cases hv
  have hj:j < n * size:=by have:=(List.getElem?_eq_some_iff.1 hz).1; omega
  rw [<- ht,List.getElem?_take_of_lt hj] at hz
  constructor
  ·simp only [World.cell?,hh]
   simpa using hz
  ·simp [World.frozen?,hh]
theorem zcD:∀ {l:List Wd} {i:Nat} {x:Wd},l[i]? = some x->(cellsW l)[i * 3]? = some (.int .i64 x.1)
 | [],i,x,h=>by simp at h
 | y :: l,0,x,h=>by simp at h; subst h; simp [cellsW]
 | y :: l,i + 1,x,h=>by
  have:=zcD (l:=l) (i:=i) (x:=x) (by simpa using h)
  have e:cellsW (y :: l) = .int .i64 y.1 :: .string ⟨y.2.1.toArray⟩ :: .string ⟨y.2.2.toArray⟩ :: cellsW l:=rfl
  rw [e,show (i + 1) * 3 = i * 3 + 1 + 1 + 1 by omega]
  simpa using this
theorem zcE:∀ {l:List Wd} {i:Nat} {x:Wd} (a:Int),l[i]? = some x->(cellsW l).set (i * 3) (.int .i64 a) = cellsW (l.set i (a,x.2))
 | [],i,x,a,h=>by simp at h
 | y :: l,0,x,a,h=>by simp at h; subst h; simp [cellsW]
 | y :: l,i + 1,x,a,h=>by
  have:=zcE (l:=l) (i:=i) (x:=x) a (by simpa using h)
  have e:∀ (y:Wd) l,cellsW (y :: l) = .int .i64 y.1 :: .string ⟨y.2.1.toArray⟩ :: .string ⟨y.2.2.toArray⟩ :: cellsW l:=fun _ _=>rfl
  rw [List.set_cons_succ,e,e,show (i + 1) * 3 = i * 3 + 1 + 1 + 1 by omega]
  simp only [List.set_cons_succ]
  rw [this]
theorem zcF:∀ (l:List Wd),(cellsW l).length = l.length * 3
 | []=>rfl
 | y :: l=>by
  have e:cellsW (y :: l) = .int .i64 y.1 :: .string ⟨y.2.1.toArray⟩ :: .string ⟨y.2.2.toArray⟩ :: cellsW l:=rfl
  rw [e]; simp [zcF l]; omega
structure RS (M:Nat) (w W:World) (v:Value) (vs:List Value) (o:List (Int × List Wd)):Prop where
 bel:Below w.heap.size w W
 size:M <= W.heap.size
 own:W.ownsRow M 72 2 v o.length (Ze o vs)
 len:vs.length = o.length
 rows:∀ (i:Nat) (b:Int) (ws:List Wd) (u:Value),o[i]? = some (b,ws)->vs[i]? = some u->W.ownsRow M 57 3 u ws.length (cellsW ws)
theorem RS.kept {M:Nat} {w A B:World} {v:Value} {vs:List Value} {o:List (Int × List Wd)} (h:RS M w A v vs o) (hM:w.heap.size <= M) (hb:Below A.heap.size A B):RS M w B v vs o :=
 have key:∀ {base:Nat} {e:TypeId} {size:Nat} {v:Value} {n:Nat} {xs:List Value},A.ownsRow base e size v n xs->B.ownsRow base e size v n xs:=fun hu=>yG hu fun g cur hg _ _=>hb.block g (Array.getElem?_eq_some_iff.1 hg).1
 ⟨⟨hb.os.trans h.bel.os,hb.tape.trans h.bel.tape,hb.output.trans h.bel.output,Nat.le_trans h.bel.size hb.size,fun k hk=>(hb.block k (by have:=h.size; omega)).trans (h.bel.block k hk)⟩,Nat.le_trans h.size hb.size,key h.own,h.len,fun i b ws u h1 h2=>key (h.rows i b ws u h1 h2)⟩
theorem RS.next {M:Nat} {w W W2:World} {v v2 u:Value} {vs:List Value} {o:List (Int × List Wd)} {a:Int} {ws:List Wd} {o1:Obj} (hM:w.heap.size <= M) (h:RS M w W v vs o) (hu:W.ownsRow M 57 3 u ws.length (cellsW ws))
  (hg:(W.alloc o1).grownBy W2 v.ownBlock) (hown:W2.ownsRow M 72 2 v2 (o.length + 1) (Ze o vs++[.int .i64 a,u])):RS M w W2 v2 (vs++[u]) (o++[(a,ws)]):=by
 have hW2:∀ k,k < W.heap.size->some k ≠ v.ownBlock->W2.heap[k]? = W.heap[k]?:=fun k hk hn=>(hg.block k (by simp; omega) hn).trans (Below.heap_alloc _ _ _ hk)
 have hsz:W.heap.size <= W2.heap.size:=by have:=hg.size; simp at this; omega
 have hWs:=h.size
 have ww:∀ {u:Value} {n:Nat} {xs:List Value},W.ownsRow M 57 3 u n xs->W2.ownsRow M 57 3 u n xs:=fun hu=>yG hu fun g cur hg' _ hge=>by
  refine hW2 g (Array.getElem?_eq_some_iff.1 hg').1 fun e=>?_
  obtain ⟨_,cur',hg''⟩:=Zj h.own e.symm
  rw [hg'] at hg''
  simp only [zuf,Obj.cells.injEq] at hg''
  exact absurd hg''.2.1 (by decide)
 refine ⟨⟨hg.os.trans h.bel.os,hg.tape.trans h.bel.tape,hg.output.trans h.bel.output,by have:=h.bel.size; omega,fun k hk=>(hW2 k (by omega) (fun e=>by have:=(Zj h.own e.symm).1; omega)).trans (h.bel.block k hk)⟩,by omega,?_,by simp [h.len],?_⟩
 ·rw [zbC a ws u o vs h.len,show (o++[(a,ws)]).length = o.length + 1 by simp]
  exact hown
 ·intro i b ws' u' h1 h2
  rcases Nat.lt_trichotomy i o.length with hi | hi | hi
  ·rw [List.getElem?_append_left hi] at h1
   rw [List.getElem?_append_left (by rw [h.len]; exact hi)] at h2
   exact ww (h.rows i b ws' u' h1 h2)
  ·subst hi
   simp at h1
   rw [<- h.len] at h2
   simp at h2
   obtain ⟨_,rfl⟩:=h1
   subst h2
   exact ww hu
  ·rw [List.getElem?_eq_none (by simp; omega)] at h1; cases h1
end Go.Seq
namespace Go.Seq
open Go.RowKit Go.Shelf Go.Proofs
theorem znc (f n:Nat) (hf:f <= 20001) (hn:n <= 20001):wrap64 ((f:Int) + (n:Int) - (f:Int)) = (n:Int):=by rw [show (f:Int) + (n:Int) - (f:Int) = (n:Int) by omega]; exact IntWalk.wrap64_in _ (by omega)
theorem znd (f n:Nat) (hf:f <= 20001) (hn:n <= 20001):wrap64 ((f:Int) + (n:Int) + 1) = (((f + n + 1:Nat)):Int):=by rw [IntWalk.wrap64_in _ (by omega)]; omega
theorem zrU (f:Nat) {b:Int} (hf:f <= 20001) (h1:-1 <= b) (h2:b <= 1000):wrap64 ((f:Int) + b) = (f:Int) + b:=IntWalk.wrap64_in _ (by omega)
theorem zrV (f:Nat) {b:Int} (hf:f <= 20001) (h1:0 <= b) (h2:b <= 1000):wrap64 (b + (f:Int)) = b + (f:Int):=IntWalk.wrap64_in _ (by omega)
theorem zrW (i:Nat) (h:i <= 20001):wrap64 ((i:Int) + 1) = ((i + 1:Nat):Int):=by rw [IntWalk.wrap64_in _ (by omega)]; omega
theorem zlO (S:ByteArray) (hS:S.size <= 20000) (f:Nat) (hf:f <= S.size):∃ (n:Nat) (ps2:List (List UInt8)) (p:List UInt8),p.length = n/\n <= 20000/\f <= 20000/\S.extract f (f + n) = qR p/\yF 10 (S.data.toList.drop f) = p :: ps2 /\
  ((f + n + 1 <= S.size/\ps2 = yF 10 (S.data.toList.drop (f + n + 1))) ∨ (f + n + 1 = S.size + 1/\ps2 = []))/\(∀ j,j < n->(f:Int) + (j:Int) < (S.size:Int)/\∃ h:f + j < S.size,((S[f + j]'h).toNat:Int) ≠ 10)/\(f:Int) + (n:Int) <= (S.size:Int) /\
  (¬ (f:Int) + (n:Int) < (S.size:Int) ∨ ((f:Int) + (n:Int) < (S.size:Int)/\∃ h:f + n < S.size,((S[f + n]'h).toNat:Int) = 10)):=by
 have hSl:S.data.toList.length = S.size:=Array.length_toList
 obtain ⟨n,hn⟩:∃ n,nlL (S.data.toList.drop f) = n:=⟨_,rfl⟩
 have hn1:=(zpE (S.data.toList.drop f) n).2 hn.symm
 have hdl:(S.data.toList.drop f).length = S.size - f:=by rw [List.length_drop,hSl]
 have hn2:=hn1.1
 rw [hdl] at hn2
 have hj:∀ j,j < n->(f:Int) + (j:Int) < (S.size:Int)/\∃ h:f + j < S.size,((S[f + j]'h).toNat:Int) ≠ 10:=fun j hj=>by
  obtain ⟨h1,h2⟩:=(zpE (S.data.toList.drop f) j).1 (by rw [hn]; exact hj)
  rw [List.getElem_drop] at h2
  exact ⟨by omega,by omega,fun e=>h2 (UInt8.toNat_inj.1 (by show _ = 10; exact Int.ofNat.inj e))⟩
 have hex:S.extract f (f + n) = qR ((S.data.toList.drop f).take n):=by rw [zfy,show f + n - f = n by omega]; rfl
 have hpl:((S.data.toList.drop f).take n).length = n:=by rw [List.length_take,hdl]; omega
 rcases Nat.lt_or_ge (f + n) S.size with hlt | hge
 ·have hps:=(zd0 (S.data.toList.drop f)).2 (by rw [hn,hdl]; omega)
  rw [hn,List.drop_drop] at hps
  have h10:=hn1.2 (by rw [hdl]; omega)
  rw [List.getElem_drop] at h10
  exact ⟨n,_,_,hpl,by omega,by omega,hex,hps,.inl ⟨by omega,by rw [show f + (n + 1) = f + n + 1 by omega]⟩,hj,by omega,.inr ⟨by omega,hlt,by show ((S.data.toList[f + n]).toNat:Int) = 10; rw [h10]; rfl⟩⟩
 ·have hps:=(zd0 (S.data.toList.drop f)).1 (by rw [hn,hdl]; omega)
  rw [<- List.take_of_length_le (l:=S.data.toList.drop f) (i:=n) (by rw [hdl]; omega)] at hps
  refine ⟨n,[],_,hpl,by omega,by omega,hex,?_,.inr ⟨by omega,rfl⟩,hj,by omega,.inl (by omega)⟩
  rw [List.take_of_length_le (l:=S.data.toList.drop f) (i:=n) (by rw [hdl]; omega)] at hps ⊢
  exact hps
theorem zd1 {N:Nat} {W:World} {a b:Int} (h:W.heap[N]? = some (.cells #[.int .i64 a,.int .i64 b] 30 (0,0))):W.cell? ⟨N,0,none⟩ = some (.int .i64 a)/\W.cell? ⟨N,1,none⟩ = some (.int .i64 b)/\W.frozen? ⟨N,0,none⟩ = false/\W.frozen? ⟨N,1,none⟩ = false:=by
 simp [World.cell?,World.frozen?,h]
theorem zaB {N:Nat} {W:World} {a b:Int} (h:W.heap[N]? = some (.cells #[.int .i64 a,.int .i64 b] 30 (0,0))) (c d:Int):((W.setCell ⟨N,0,none⟩ (.int .i64 c)).setCell ⟨N,1,none⟩ (.int .i64 d)).heap[N]? = some (.cells #[.int .i64 c,.int .i64 d] 30 (0,0)) :=
 heap_setCell_same _ _ 1 _ _ (.int .i64 d) (heap_setCell_same _ _ 0 _ _ (.int .i64 c) h)
theorem ZC {N:Nat} {w W:World} {a b:Int} (hb:Below w.heap.size w W) (hN:w.heap.size = N) (h:W.heap[N]? = some (.cells #[.int .i64 a,.int .i64 b] 30 (0,0))) (u v:Value):Below w.heap.size w ((W.setCell ⟨N,0,none⟩ u).setCell ⟨N,1,none⟩ v):=qg (qg hb (by simp [hN]) _) (by simp [hN]) _
theorem zb7 {R:Ending->World->Prop} {tmps:Array Value} {B:World} {N:Nat} {v:Value} {a b:Int} (hB:B.heap[N]? = some (.cells #[.int .i64 a,.int .i64 b] 30 (0,0))) (h2:tmps[2]?.getD undef = v) (h3:tmps[3]?.getD undef = .pointer (some ⟨N,0,none⟩)) (h:R (.returned (.tuple #[v,.agg #[.int .i64 a,.int .i64 b]])) B):bodyPost Tryz.prog Tryz.f34 R .ret { tmps,defers:=[] } B:=by
 obtain ⟨q0,q1,_,_⟩:=zd1 hB
 refine bodyPost_ret (v:=.tuple #[v,.agg #[.int .i64 a,.int .i64 b]]) ?_ rfl h
 simp [results,Tryz.f34,go_sem,h2,h3,q0,q1]
theorem zkp {W:World} {base:Nat} {e:TypeId} {size:Nat} {ba:Option Addr} {n cap:Nat} {xs:List Value} (h:W.ownsRow base e size (.slice ba n cap) n xs) (hn:0 < n):∃ g,ba = some ⟨g,0,none⟩/\n <= cap:=by
 obtain ⟨hl,⟨h0,h1⟩ | ⟨g',cap',cur,hv,hb,hh,hc,hm,hs,ht⟩⟩:=h
 ·omega
 ·cases hv; exact ⟨g',rfl,hc⟩
theorem zlP {x:Wd} (a:Int):∀ {l:List Wd} {i:Nat},l[i]? = some x->((l.take i).map (shW a)++l.drop i)[i]? = some x
 | [],i,h=>by simp at h
 | y :: l,0,h=>by simpa using h
 | y :: l,i + 1,h=>by simpa using zlP a (l:=l) (i:=i) (by simpa using h)
theorem ziN {x:Wd} (a:Int):∀ {l:List Wd} {i:Nat},l[i]? = some x->((l.take i).map (shW a)++l.drop i).set i (x.1 + a,x.2) = (l.take (i + 1)).map (shW a)++l.drop (i + 1)
 | [],i,h=>by simp at h
 | y :: l,0,h=>by simp at h; subst h; simp [shW]
 | y :: l,i + 1,h=>by simpa using ziN a (l:=l) (i:=i) (by simpa using h)
theorem zne (a:Int) (l:List Wd) (i:Nat) (hi:i <= l.length):((l.take i).map (shW a)++l.drop i).length = l.length:=by simp; omega
theorem ztr {i n:Nat} (h:i < n):(i:Int) < (n:Int):=by omega
theorem zrX {i n:Nat} (h:i < n):((n:Int) - ((i + 1:Nat):Int)).toNat < ((n:Int) - (i:Int)).toNat:=by omega
theorem zrY {f n s:Nat} (h:(f:Int) + (n:Int) <= (s:Int)):((s:Int) + 1 - ((f + n + 1:Nat):Int)).toNat < ((s:Int) + 1 - (f:Int)).toNat:=by omega
theorem zts {i n m:Nat} (h:i < n) (hm:m = n * 3):i * 3 < m:=by omega
theorem znf (f n:Nat) (p:List UInt8) (hp:p.length = n):(f:Int) + ((p.length:Int) + 1) = ((f + n + 1:Nat):Int):=by omega
theorem zfn {M N:Nat} {W:World} {e:TypeId} {size:Nat} {v:Value} {n:Nat} {xs:List Value} (h:W.ownsRow (N + 1) e size v n xs) (hM:M <= N) (a b:Value):((W.setCell ⟨N,0,none⟩ a).setCell ⟨N,1,none⟩ b).ownsRow M e size v n xs :=
 Y4 (yG h fun g cur _ _ hge=>(Below.heap_setCell _ _ _ _ (by show g ≠ N; omega)).trans (Below.heap_setCell _ _ _ _ (by show g ≠ N; omega))) (by omega)
theorem zkq {N:Nat} {A W3:World} {o1 ob:Obj} {v:Value} {e:TypeId} {size n:Nat} {xs:List Value} (hN:N + 1 <= A.heap.size) (hown:A.ownsRow (N + 1) e size v n xs) (hg:(A.alloc o1).grownBy W3 v.ownBlock) (h:A.heap[N]? = some ob):W3.heap[N]? = some ob :=
 (hg.block N (by simp; omega) (fun e=>by have:=(Zj hown e.symm).1; omega)).trans ((Below.heap_alloc _ _ _ (by omega)).trans h)
theorem zng {o f n:Nat} (h:o <= f):o <= f + n + 1:=by omega
theorem zkr {o f n:Nat} (h:o <= f):o + 1 <= f + n + 1:=by omega
theorem zpG {o f:Nat} (h:o <= f) (hf:f <= 20000):o + 1 <= maxLen:=by unfold maxLen; omega
theorem znh {o f:Nat} (h:o <= f) (hf:f <= 20000):(o + 1) * 32 <= 140737488355328:=by omega
theorem ztt {s:Nat} {f j:Nat} (h:(f:Int) + (j:Int) < (s:Int)):((s:Int) - ((f:Int) + ((j + 1:Nat):Int))).toNat < ((s:Int) - ((f:Int) + (j:Int))).toNat:=by omega
theorem ztu (f j:Nat) (hf:f <= 20000) (hj:j <= 20000):wrap64 ((f:Int) + (j:Int) + 1) = (f:Int) + ((j + 1:Nat):Int):=by rw [IntWalk.wrap64_in _ (by omega)]; omega
theorem zsD (f j:Nat):((f:Int) + (j:Int)).toNat = f + j:=by omega
theorem ztv (f j:Nat):0 <= (f:Int) + (j:Int):=by omega
theorem ztw (f n:Nat):(f:Int) <= (f:Int) + (n:Int):=by omega
theorem zni {n:Nat} (h:1000 < n):(1000:Int) < (n:Int):=by omega
theorem zks {n:Nat} (h:¬ 1000 < n):¬ (1000:Int) < (n:Int):=by omega
theorem zrt {a b:Nat} (h:a <= b):(a:Int) <= (b:Int):=by omega
theorem zpH {a:Nat}:¬ ((a + 1:Nat):Int) <= (a:Int):=by omega
set_option maxRecDepth 20000 in
set_option maxHeartbeats 8000000 in
theorem zlQ (rowL:List UInt8->Option (List Wd × Int)) (S:ByteArray) (hS:S.size <= 20000) (w:World)
  (hR:∀ W (L:ByteArray) l bad,L.size <= 1000->Below w.heap.size w W->rowL L.data.toList = some (l,bad)->Calls Tryz.prog 69 #[.string L] W fun e W'=>∃ v,e = .returned (.tuple #[v,.int .i64 bad])/\Below W.heap.size W W'/\W'.ownsRow W.heap.size 57 3 v l.length (cellsW l))
  (hRb:∀ L l bad,L.length <= 1000->rowL L = some (l,bad)->-1 <= bad/\bad <= 1000/\l.length <= 1001/\∀ x ∈ l,0 <= x.1/\x.1 <= 1000)
  {out:List (Int × List Wd)} {e1 e2:Int} (hr:z8 rowL (yF 10 S.data.toList) [] 0 = some (out,e1,e2)) :
  Calls Tryz.prog 34 #[.string S] w fun en w'=>∃ v vs,en = .returned (.tuple #[v,.agg #[.int .i64 e1,.int .i64 e2]])/\Below w.heap.size w w' /\
   w'.ownsRow w.heap.size 72 2 v out.length (Ze out vs)/\vs.length = out.length/\∀ (i:Nat) (b:Int) (ws:List Wd) (u:Value),out[i]? = some (b,ws)->vs[i]? = some u->w'.ownsRow w.heap.size 57 3 u ws.length (cellsW ws):=by
 have mixed:Tryz.prog.follows .mixedOrders = true:=by kernel_rfl
 have hSi:¬ (20000:Int) < (S.size:Int):=by omega
 obtain ⟨N,hN⟩:∃ N,w.heap.size = N:=⟨_,rfl⟩
 have hSl:S.data.toList.length = S.size:=Array.length_toList
 go_enter Tryz.func34,Tryz.ntmps34
 go_wp2
 go_loopw [4,5] (fun v4 v5 wr=>∃ (ps:List (List UInt8)) (o:List (Int × List Wd)) (vs:List Value) (f:Nat),v5 = .int .i64 (f:Int)/\z8 rowL ps o (f:Int) = some (out,e1,e2)/\((f <= S.size/\ps = yF 10 (S.data.toList.drop f)) ∨ (f = S.size + 1/\ps = []))/\RS (N + 1) w wr v4 vs o/\wr.heap[N]? = some (.cells #[.int .i64 0,.int .i64 0] 30 (0,0))/\o.length <= f)
  (fun v4 v5 wr=>((S.size:Int) + 1 - intOf v5).toNat)
 case atStart =>
  refine ⟨yF 10 S.data.toList,[],[],0,rfl,hr,.inl ⟨Nat.zero_le _,rfl⟩,⟨(Below.refl _ _).alloc (Nat.le_refl _) _,by simp [hN],World.ownsRow_nil _ _ _ _,rfl,fun i b ws u h=>by simp at h⟩,by rw [<- hN]; exact ahn w _,Nat.zero_le _⟩
 case round =>
  obtain ⟨ps,o,vs,f,rfl,hq,hps,hRS,hb0,hol⟩:=hrel
  have hcf:wr.cell? ⟨N,0,none⟩ = some (.int .i64 0)/\wr.cell? ⟨N,1,none⟩ = some (.int .i64 0)/\wr.frozen? ⟨N,0,none⟩ = false/\wr.frozen? ⟨N,1,none⟩ = false:=by simp [World.cell?,World.frozen?,hb0]
  obtain ⟨c0,c1,c0f,c1f⟩:=hcf
  rcases hps with ⟨hf,rfl⟩ | ⟨rfl,rfl⟩
  ·obtain ⟨n,ps2,p,hpl,hn2,hf2,hex,hps,hps9,hj9,hle9,hend⟩:=zlO S hS f hf
   rw [hps] at hq
   have hfi:=zrt hf
   clear hps
   clear hr
   obtain ⟨hq⟩:Nonempty (Shut (z8 rowL (p :: ps2) o (f:Int) = some (out,e1,e2))):=⟨hq⟩
   obtain ⟨hj9⟩:Nonempty (Shut (∀ j,j < n->(f:Int) + (j:Int) < (S.size:Int)/\∃ h:f + j < S.size,((S[f + j]'h).toNat:Int) ≠ 10)):=⟨hj9⟩
   go_wp2
   go_loopw [6] (fun v6 w6=>∃ j:Nat,v6 = .int .i64 ((f:Int) + (j:Int))/\j <= n/\w6 = wr) (fun v6 w6=>((S.size:Int) - intOf v6).toNat)
   case atStart=>exact ⟨0,by simp,Nat.zero_le _,rfl⟩
   case round =>
    obtain ⟨j,rfl,hj,rfl⟩:=hrel
    have hx:=zsD f j
    have hx0:=ztv f j
    have hlf:=ztw f j
    by_cases hjn:j < n
    ·obtain ⟨g1,g2,g3⟩:=hj9.out j hjn
     have bw:(((S[f + j]'g2).toNat:Int) != 10) = true:=bne_iff_ne.2 g3
     have hnx:=ztu f j hf2 (Nat.le_trans (Nat.le_of_lt hjn) hn2)
     clear hR hRb hq hj9 hRS
     clear hend
     try clear hps9
     clear hle9 hex hpl hol
     try clear hb0
     try clear hfi
     try clear hf
     try clear hSi
     try clear hSl
     clear c0 c1 c0f c1f
     go_wp2
     all_goals first | exact absurd (bw.symm.trans ‹(((S[f + j]'g2).toNat:Int) != 10) = false›) (by decide) | skip
     refine ⟨⟨j + 1,rfl,hjn,by first | rfl | trivial⟩,?_⟩
     simp only [intOf]
     exact ztt g1
    ·obtain rfl:j = n:=Nat.le_antisymm hj (Nat.not_lt.1 hjn)
     clear hj9 hj hjn
     rcases hend with hend | ⟨g1,g2,g3⟩
     ·have hend2:(S.size:Int) <= (f:Int) + (j:Int):=by first | exact hend | exact Int.not_lt.1 hend
      by_cases h1000:1000 < j
      ·have hgi:=zni h1000
       have hw1:=znc f j (zuk hf2) (zuk hn2)
       obtain ⟨hkeep⟩:Nonempty (Shut (RS (N + 1) w wr u4 vs o/\wr.heap[N]? = some (.cells #[.int .i64 0,.int .i64 0] 30 (0,0))/\w.heap.size = N/\p.length = j/\1000 < j)):=⟨⟨hRS,hb0,hN,hpl,h1000⟩⟩
       clear hRS hb0 hN hpl h1000 hR hRb hps9 hol hn2 hf2
       try clear hSl
       try clear hSi
       try clear hS
       try clear hf
       try clear hfi
       go_wp2
       obtain ⟨hRS,hb0,hN,hpl,h1000⟩:=hkeep.out
       refine zb7 (a:=4) (b:=(f:Int)) (zaB hb0 4 (f:Int)) rfl rfl ?_
       have hq':z8 rowL (p :: ps2) o (f:Int) = some (out,e1,e2):=hq
       rw [z8,if_pos (by rw [hpl]; exact h1000)] at hq'
       simp only [zuf,Prod.mk.injEq] at hq'
       obtain ⟨rfl,rfl,rfl⟩:=hq'
       first
        | exact ⟨_,[],rfl,ZC hRS.bel hN hb0 _ _,World.ownsRow_nil _ _ _ _,rfl,fun i b ws u h=>by simp at h⟩
        | exact ⟨_,rfl,ZC hRS.bel hN hb0 _ _,[],World.ownsRow_nil _ _ _ _,rfl,fun i b ws u h=>by simp at h⟩
      ·have hgi:=zks h1000
       cases hrow:rowL p with
       | none =>
        have hq':z8 rowL (p :: ps2) o (f:Int) = some (out,e1,e2):=hq
        rw [z8,if_neg (by rw [hpl]; exact h1000),hrow] at hq'
        cases hq'
       | some r =>
       obtain ⟨l,bad⟩:=r
       have hq':z8 rowL (p :: ps2) o (f:Int) = some (out,e1,e2):=hq
       rw [z8,if_neg (by rw [hpl]; exact h1000),hrow] at hq'
       simp only [Option.bind_some] at hq'
       obtain ⟨hq2⟩:Nonempty (Shut ((if 0 <= bad then some ([],3,(f:Int) + bad) else z8 rowL ps2 (if l = [] then o else o++[((f:Int),l.map (shW (f:Int)))]) ((f:Int) + ((p.length:Int) + 1))) = some (out,e1,e2))):=⟨hq'⟩
       clear hq hq'
       obtain ⟨b1,b2,b3,b4⟩:=hRb p l bad (by rw [hpl]; exact Nat.not_lt.1 h1000) hrow
       have hW:=fun W hb=>hR W (qR p) l bad (by show p.toArray.size <= 1000; rw [List.size_toArray,hpl]; exact Nat.not_lt.1 h1000) hb hrow
       have hwb:=zrU f (zuk hf2) b1 b2
       clear hR hRb
       have hcall:=hW wr hRS.bel
       clear hW
       have hw1:=znc f j (zuk hf2) (zuk hn2)
       obtain ⟨hkeep⟩:Nonempty (Shut (RS (N + 1) w wr u4 vs o/\wr.heap[N]? = some (.cells #[.int .i64 0,.int .i64 0] 30 (0,0))/\w.heap.size = N/\p.length = j/\¬ 1000 < j/\j <= 20000/\f <= 20000/\o.length <= f/\(-1 <= bad/\bad <= 1000/\l.length <= 1001/\∀ x ∈ l,0 <= x.1/\x.1 <= 1000)/\((f + j + 1 <= S.size/\ps2 = yF 10 (S.data.toList.drop (f + j + 1))) ∨ (f + j + 1 = S.size + 1/\ps2 = [])))):=⟨⟨hRS,hb0,hN,hpl,h1000,hn2,hf2,hol,⟨b1,b2,b3,b4⟩,hps9⟩⟩
       clear hRS hb0 hN hpl h1000 hn2 hf2 hol b1 b2 b3 b4 hps9
       try clear hSl
       try clear hSi
       try clear hS
       try clear hf
       try clear hfi
       by_cases hbad:0 <= bad
       ·go_wp2_with (go_at_call 69; refine hcall.mono ?_; rintro e W1 ⟨v,rfl,x1,ow⟩; obtain ⟨hRS,hb0,hN,hpl,h1000,hn2,hf2,hol,⟨b1,b2,b3,b4⟩,hps9⟩:=hkeep.out; have hb1:=(x1.block N (Array.getElem?_eq_some_iff.1 hb0).1).trans hb0; have hcf1:=zd1 hb1; obtain ⟨q0,q1,q0f,q1f⟩:=hcf1; clear hRS hb0 hN hpl h1000 hn2 hf2 hol b1 b2 b3 b4 hps9)
        obtain ⟨hRS,hb0,hN,hpl,h1000,hn2,hf2,hol,⟨b1,b2,b3,b4⟩,hps9⟩:=hkeep.out
        refine zb7 (a:=3) (b:=(f:Int) + bad) (zaB hb1 3 ((f:Int) + bad)) rfl rfl ?_
        have hq':(if 0 <= bad then some ([],3,(f:Int) + bad) else z8 rowL ps2 (if l = [] then o else o++[((f:Int),l.map (shW (f:Int)))]) ((f:Int) + ((p.length:Int) + 1))) = some (out,e1,e2):=hq2
        rw [if_pos hbad] at hq'
        simp only [zuf,Prod.mk.injEq] at hq'
        obtain ⟨rfl,rfl,rfl⟩:=hq'
        first
         | exact ⟨_,[],rfl,ZC (RS.kept hRS (Nat.le_trans (Nat.le_of_eq hN) (Nat.le_succ _)) x1).bel hN hb1 _ _,World.ownsRow_nil _ _ _ _,rfl,fun i b ws u h=>by simp at h⟩
         | exact ⟨_,rfl,ZC (RS.kept hRS (Nat.le_trans (Nat.le_of_eq hN) (Nat.le_succ _)) x1).bel hN hb1 _ _,[],World.ownsRow_nil _ _ _ _,rfl,fun i b ws u h=>by simp at h⟩
       ·go_wp2_with (go_at_call 69; refine hcall.mono ?_; rintro e W1 ⟨v,rfl,x1,ow⟩; obtain ⟨ba,cap,rfl⟩:=YK ow)
        go_loopw [9] (fun v9 w9=>∃ i:Nat,v9 = .int .i64 (i:Int)/\i <= l.length/\Below wr.heap.size wr w9/\w9.ownsRow wr.heap.size 57 3 (.slice ba l.length cap) l.length (cellsW ((l.take i).map (shW (f:Int))++l.drop i)))
         (fun v9 w9=>((l.length:Int) - intOf v9).toNat)
        case atStart=>exact ⟨0,rfl,Nat.zero_le _,x1,by simpa using ow⟩
        case round =>
         obtain ⟨i,rfl,hi,hb9,ho9⟩:=hrel
         have hf20:=hkeep.out.2.2.2.2.2.2.1
         have hbs:=hkeep.out.2.2.2.2.2.2.2.2.1
         by_cases hil:i < l.length
         ·obtain ⟨g,rfl,hcap⟩:=zkp ho9 (Nat.lt_of_le_of_lt (Nat.zero_le _) hil)
          obtain ⟨x,hx⟩:∃ x,l[i]? = some x:=⟨l[i],List.getElem?_eq_getElem hil⟩
          have hxi:=zlP (f:Int) hx
          obtain ⟨z0,z1⟩:=zpF ho9 (zcD hxi)
          have hset:=zgf ho9 (j:=i * 3) (zts hil (by rw [zcF,zne _ _ _ hi])) (.int .i64 (x.1 + (f:Int)))
          rw [zcE _ hxi,ziN _ hx] at hset
          have hbx:=hbs.2.2.2 x (List.mem_of_getElem? hx)
          have hwx:=zrV f (zuk hf20) hbx.1 hbx.2
          have hbb:=qg hb9 (a:=⟨g,i * 3,none⟩) (Zj ho9 rfl).1 (.int .i64 (x.1 + (f:Int)))
          have h1i:=zrW i (Nat.le_trans hi (Nat.le_trans hbs.2.2.1 (by decide)))
          have hili:=ztr hil
          have hi0:0 <= (i:Int):=Int.natCast_nonneg _
          have htoN:((i:Int)).toNat = i:=rfl
          clear ho9 hcall hkeep hb9 hcap hf20 hbs hxi hbx hwb hx0 hlf hx hq2 hgi hw1 ow x1 c0 c1 c0f c1f hle9 hex hi
          go_wp2
          rw [h1i]
          refine ⟨⟨i + 1,rfl,hil,hbb,hset⟩,?_⟩
          simp only [intOf]
          exact zrX hil
         ·obtain rfl:i = l.length:=Nat.le_antisymm hi (Nat.not_lt.1 hil)
          have ho8:wr.ownsRow (N + 1) 57 3 (.slice ba l.length cap) (l.map (shW (f:Int))).length (cellsW (l.map (shW (f:Int)))):=by
           have h9:=Y4 ho9 (base':=N + 1) hkeep.out.1.size
           rw [List.length_map]; simpa using h9
          obtain ⟨hRS,hb0,hN,hpl,h1000,hn2,hf2,hol,⟨b1,b2,b3,b4⟩,hps9⟩:=hkeep.out
          have hM:w.heap.size <= N + 1:=Nat.le_trans (Nat.le_of_eq hN) (Nat.le_succ _)
          have hRS2:=RS.kept hRS hM hb9
          have hb2:=(hb9.block N (Array.getElem?_eq_some_iff.1 hb0).1).trans hb0
          have hq':(if 0 <= bad then some ([],3,(f:Int) + bad) else z8 rowL ps2 (if l = [] then o else o++[((f:Int),l.map (shW (f:Int)))]) ((f:Int) + ((p.length:Int) + 1))) = some (out,e1,e2):=hq2
          rw [if_neg (by first | exact hbad | exact Int.not_le.2 hbad),znf f j p hpl] at hq'
          have hmea:=zrY hle9
          by_cases hl0:l = []
          ·rw [if_pos hl0] at hq'
           have hz:¬ (0:Int) < (l.length:Int):=by rw [hl0]; decide
           obtain ⟨hfin⟩:Nonempty (Shut ((∃ (ps:List (List UInt8)) (o:List (Int × List Wd)) (vs:List Value) (f2:Nat),Value.int .i64 ((f + j + 1:Nat):Int) = .int .i64 (f2:Int)/\z8 rowL ps o (f2:Int) = some (out,e1,e2)/\((f2 <= S.size/\ps = yF 10 (S.data.toList.drop f2)) ∨ (f2 = S.size + 1/\ps = []))/\RS (N + 1) w wr u4 vs o/\wr.heap[N]? = some (.cells #[.int .i64 0,.int .i64 0] 30 (0,0))/\o.length <= f2))) :=
            ⟨⟨ps2,o,vs,f + j + 1,rfl,hq',hps9,hRS2,hb2,zng hol⟩⟩
           have hw2:=znd f j (zuk hf2) (zuk hn2)
           clear hRS hb0 hN hpl h1000 hn2 hf2 hol b1 b2 b3 b4 hps9 hM hRS2 hb2 hq' hq2 hkeep hcall ho9 ho8 hb9 hi hil hbs hf20 hwb ow x1 hw1 c0 c1 c0f c1f hle9 hex
           go_wp2
           rw [hw2]
           refine ⟨hfin.out,?_⟩
           simp only [intOf]
           exact hmea
          ·rw [if_neg hl0] at hq'
           have hposi:=zgh (List.length_pos_iff.2 hl0)
           obtain ⟨iR,zR,uR,hiR,hzR,hsR,hbR,hcR⟩:=zpJ
           have hown1:(wr.alloc (.cells #[.int .i64 (f:Int),.slice ba l.length cap] 72)).ownsRow (N + 1) 72 2 u4 o.length (Ze o vs):=yG hRS2.own fun g cur hg _ _=>Below.heap_alloc _ _ _ (Array.getElem?_eq_some_iff.1 hg).1
           have hsz9:N + 1 <= (wr.alloc (.cells #[.int .i64 (f:Int),.slice ba l.length cap] 72)).heap.size:=Nat.le_trans hRS2.size (by simp)
           have hom:=zpG hol hf2
           have hom2:=znh hol hf2
           have hblk:∀ W3:World,(wr.alloc (.cells #[.int .i64 (f:Int),.slice ba l.length cap] 72)).grownBy W3 u4.ownBlock->W3.heap[N]? = some (.cells #[.int .i64 0,.int .i64 0] 30 (0,0)):=fun W3 hg=>zkq hRS2.size hRS2.own hg hb2
           obtain ⟨hfin⟩:Nonempty (Shut (∀ (v2:Value) (W3:World),(wr.alloc (.cells #[.int .i64 (f:Int),.slice ba l.length cap] 72)).grownBy W3 u4.ownBlock->W3.ownsRow (N + 1) 72 2 v2 (o.length + 1) (Ze o vs++[.int .i64 (f:Int),.slice ba l.length cap])->(∃ (ps:List (List UInt8)) (o:List (Int × List Wd)) (vs:List Value) (f2:Nat),Value.int .i64 ((f + j + 1:Nat):Int) = .int .i64 (f2:Int)/\z8 rowL ps o (f2:Int) = some (out,e1,e2)/\((f2 <= S.size/\ps = yF 10 (S.data.toList.drop f2)) ∨ (f2 = S.size + 1/\ps = []))/\RS (N + 1) w W3 v2 vs o/\W3.heap[N]? = some (.cells #[.int .i64 0,.int .i64 0] 30 (0,0))/\o.length <= f2))) :=
            ⟨fun v2 W3 hg how=>⟨ps2,_,_,f + j + 1,rfl,hq',hps9,RS.next hM hRS2 ho8 hg how,hblk W3 hg,by rw [List.length_append]; exact zkr hol⟩⟩
           have hw2:=znd f j (zuk hf2) (zuk hn2)
           clear hRS hb0 hN hpl h1000 hn2 hf2 hol b1 b2 b3 b4 hps9 hM hRS2 hb2 hq' hq2 hkeep hcall ho9 ho8 hb9 hi hil hbs hf20 hwb ow x1 hw1 c0 c1 c0f c1f hle9 hex hblk
           go_wp2_with (at_builtin; go_loud (refine wpList_append_own _ rfl _ _ 68 rfl (N + 1) 72 _ zR 2 32 uR hiR hzR hsR hbR hcR (by decide) _ _ _ rfl hown1 ⟨wr.heap.size,0,none⟩ 1 1 [.int .i64 (f:Int),.slice ba l.length cap] rfl rfl ?d1 ?d2 ?d3 ?d4 ?d5 ?_))
           case d1=>exact zd2 wr _ _ _ _ rfl
           case d2=>first | (intro u hu; simp at hu; rcases hu with rfl | rfl <;> rfl) | simp [Value.oneCell']
           case d3=>exact hom
           case d4=>exact hom2
           case d5=>first | exact hsz9 | (simp at hsz9; exact hsz9)
           intro v2 W3 hown2 hg2 _
           have hfin2:=hfin.out v2 W3 hg2 hown2
           obtain ⟨hfin3⟩:Nonempty (Shut _):=⟨hfin2⟩
           clear hfin hfin2 hown1 hown2 hg2 hsz9 hom hom2
           go_wp2
           rw [hw2]
           refine ⟨hfin3.out,?_⟩
           simp only [intOf]
           exact hmea
     ·have bw:(((S[f + j]'g2).toNat:Int) != 10) = false:=bne_eq_false_iff_eq.2 g3
      by_cases h1000:1000 < j
      ·have hgi:=zni h1000
       have hw1:=znc f j (zuk hf2) (zuk hn2)
       obtain ⟨hkeep⟩:Nonempty (Shut (RS (N + 1) w wr u4 vs o/\wr.heap[N]? = some (.cells #[.int .i64 0,.int .i64 0] 30 (0,0))/\w.heap.size = N/\p.length = j/\1000 < j)):=⟨⟨hRS,hb0,hN,hpl,h1000⟩⟩
       clear hRS hb0 hN hpl h1000 hR hRb hps9 hol hn2 hf2
       try clear hSl
       try clear hSi
       try clear hS
       try clear hf
       try clear hfi
       go_wp2
       obtain ⟨hRS,hb0,hN,hpl,h1000⟩:=hkeep.out
       refine zb7 (a:=4) (b:=(f:Int)) (zaB hb0 4 (f:Int)) rfl rfl ?_
       have hq':z8 rowL (p :: ps2) o (f:Int) = some (out,e1,e2):=hq
       rw [z8,if_pos (by rw [hpl]; exact h1000)] at hq'
       simp only [zuf,Prod.mk.injEq] at hq'
       obtain ⟨rfl,rfl,rfl⟩:=hq'
       first
        | exact ⟨_,[],rfl,ZC hRS.bel hN hb0 _ _,World.ownsRow_nil _ _ _ _,rfl,fun i b ws u h=>by simp at h⟩
        | exact ⟨_,rfl,ZC hRS.bel hN hb0 _ _,[],World.ownsRow_nil _ _ _ _,rfl,fun i b ws u h=>by simp at h⟩
      ·have hgi:=zks h1000
       cases hrow:rowL p with
       | none =>
        have hq':z8 rowL (p :: ps2) o (f:Int) = some (out,e1,e2):=hq
        rw [z8,if_neg (by rw [hpl]; exact h1000),hrow] at hq'
        cases hq'
       | some r =>
       obtain ⟨l,bad⟩:=r
       have hq':z8 rowL (p :: ps2) o (f:Int) = some (out,e1,e2):=hq
       rw [z8,if_neg (by rw [hpl]; exact h1000),hrow] at hq'
       simp only [Option.bind_some] at hq'
       obtain ⟨hq2⟩:Nonempty (Shut ((if 0 <= bad then some ([],3,(f:Int) + bad) else z8 rowL ps2 (if l = [] then o else o++[((f:Int),l.map (shW (f:Int)))]) ((f:Int) + ((p.length:Int) + 1))) = some (out,e1,e2))):=⟨hq'⟩
       clear hq hq'
       obtain ⟨b1,b2,b3,b4⟩:=hRb p l bad (by rw [hpl]; exact Nat.not_lt.1 h1000) hrow
       have hW:=fun W hb=>hR W (qR p) l bad (by show p.toArray.size <= 1000; rw [List.size_toArray,hpl]; exact Nat.not_lt.1 h1000) hb hrow
       have hwb:=zrU f (zuk hf2) b1 b2
       clear hR hRb
       have hcall:=hW wr hRS.bel
       clear hW
       have hw1:=znc f j (zuk hf2) (zuk hn2)
       obtain ⟨hkeep⟩:Nonempty (Shut (RS (N + 1) w wr u4 vs o/\wr.heap[N]? = some (.cells #[.int .i64 0,.int .i64 0] 30 (0,0))/\w.heap.size = N/\p.length = j/\¬ 1000 < j/\j <= 20000/\f <= 20000/\o.length <= f/\(-1 <= bad/\bad <= 1000/\l.length <= 1001/\∀ x ∈ l,0 <= x.1/\x.1 <= 1000)/\((f + j + 1 <= S.size/\ps2 = yF 10 (S.data.toList.drop (f + j + 1))) ∨ (f + j + 1 = S.size + 1/\ps2 = [])))):=⟨⟨hRS,hb0,hN,hpl,h1000,hn2,hf2,hol,⟨b1,b2,b3,b4⟩,hps9⟩⟩
       clear hRS hb0 hN hpl h1000 hn2 hf2 hol b1 b2 b3 b4 hps9
       try clear hSl
       try clear hSi
       try clear hS
       try clear hf
       try clear hfi
       by_cases hbad:0 <= bad
       ·go_wp2_with (go_at_call 69; refine hcall.mono ?_; rintro e W1 ⟨v,rfl,x1,ow⟩; obtain ⟨hRS,hb0,hN,hpl,h1000,hn2,hf2,hol,⟨b1,b2,b3,b4⟩,hps9⟩:=hkeep.out; have hb1:=(x1.block N (Array.getElem?_eq_some_iff.1 hb0).1).trans hb0; have hcf1:=zd1 hb1; obtain ⟨q0,q1,q0f,q1f⟩:=hcf1; clear hRS hb0 hN hpl h1000 hn2 hf2 hol b1 b2 b3 b4 hps9)
        obtain ⟨hRS,hb0,hN,hpl,h1000,hn2,hf2,hol,⟨b1,b2,b3,b4⟩,hps9⟩:=hkeep.out
        refine zb7 (a:=3) (b:=(f:Int) + bad) (zaB hb1 3 ((f:Int) + bad)) rfl rfl ?_
        have hq':(if 0 <= bad then some ([],3,(f:Int) + bad) else z8 rowL ps2 (if l = [] then o else o++[((f:Int),l.map (shW (f:Int)))]) ((f:Int) + ((p.length:Int) + 1))) = some (out,e1,e2):=hq2
        rw [if_pos hbad] at hq'
        simp only [zuf,Prod.mk.injEq] at hq'
        obtain ⟨rfl,rfl,rfl⟩:=hq'
        first
         | exact ⟨_,[],rfl,ZC (RS.kept hRS (Nat.le_trans (Nat.le_of_eq hN) (Nat.le_succ _)) x1).bel hN hb1 _ _,World.ownsRow_nil _ _ _ _,rfl,fun i b ws u h=>by simp at h⟩
         | exact ⟨_,rfl,ZC (RS.kept hRS (Nat.le_trans (Nat.le_of_eq hN) (Nat.le_succ _)) x1).bel hN hb1 _ _,[],World.ownsRow_nil _ _ _ _,rfl,fun i b ws u h=>by simp at h⟩
       ·go_wp2_with (go_at_call 69; refine hcall.mono ?_; rintro e W1 ⟨v,rfl,x1,ow⟩; obtain ⟨ba,cap,rfl⟩:=YK ow)
        go_loopw [9] (fun v9 w9=>∃ i:Nat,v9 = .int .i64 (i:Int)/\i <= l.length/\Below wr.heap.size wr w9/\w9.ownsRow wr.heap.size 57 3 (.slice ba l.length cap) l.length (cellsW ((l.take i).map (shW (f:Int))++l.drop i)))
         (fun v9 w9=>((l.length:Int) - intOf v9).toNat)
        case atStart=>exact ⟨0,rfl,Nat.zero_le _,x1,by simpa using ow⟩
        case round =>
         obtain ⟨i,rfl,hi,hb9,ho9⟩:=hrel
         have hf20:=hkeep.out.2.2.2.2.2.2.1
         have hbs:=hkeep.out.2.2.2.2.2.2.2.2.1
         by_cases hil:i < l.length
         ·obtain ⟨g,rfl,hcap⟩:=zkp ho9 (Nat.lt_of_le_of_lt (Nat.zero_le _) hil)
          obtain ⟨x,hx⟩:∃ x,l[i]? = some x:=⟨l[i],List.getElem?_eq_getElem hil⟩
          have hxi:=zlP (f:Int) hx
          obtain ⟨z0,z1⟩:=zpF ho9 (zcD hxi)
          have hset:=zgf ho9 (j:=i * 3) (zts hil (by rw [zcF,zne _ _ _ hi])) (.int .i64 (x.1 + (f:Int)))
          rw [zcE _ hxi,ziN _ hx] at hset
          have hbx:=hbs.2.2.2 x (List.mem_of_getElem? hx)
          have hwx:=zrV f (zuk hf20) hbx.1 hbx.2
          have hbb:=qg hb9 (a:=⟨g,i * 3,none⟩) (Zj ho9 rfl).1 (.int .i64 (x.1 + (f:Int)))
          have h1i:=zrW i (Nat.le_trans hi (Nat.le_trans hbs.2.2.1 (by decide)))
          have hili:=ztr hil
          have hi0:0 <= (i:Int):=Int.natCast_nonneg _
          have htoN:((i:Int)).toNat = i:=rfl
          clear ho9 hcall hkeep hb9 hcap hf20 hbs hxi hbx hwb hx0 hlf hx hq2 hgi hw1 ow x1 c0 c1 c0f c1f hle9 hex hi
          go_wp2
          rw [h1i]
          refine ⟨⟨i + 1,rfl,hil,hbb,hset⟩,?_⟩
          simp only [intOf]
          exact zrX hil
         ·obtain rfl:i = l.length:=Nat.le_antisymm hi (Nat.not_lt.1 hil)
          have ho8:wr.ownsRow (N + 1) 57 3 (.slice ba l.length cap) (l.map (shW (f:Int))).length (cellsW (l.map (shW (f:Int)))):=by
           have h9:=Y4 ho9 (base':=N + 1) hkeep.out.1.size
           rw [List.length_map]; simpa using h9
          obtain ⟨hRS,hb0,hN,hpl,h1000,hn2,hf2,hol,⟨b1,b2,b3,b4⟩,hps9⟩:=hkeep.out
          have hM:w.heap.size <= N + 1:=Nat.le_trans (Nat.le_of_eq hN) (Nat.le_succ _)
          have hRS2:=RS.kept hRS hM hb9
          have hb2:=(hb9.block N (Array.getElem?_eq_some_iff.1 hb0).1).trans hb0
          have hq':(if 0 <= bad then some ([],3,(f:Int) + bad) else z8 rowL ps2 (if l = [] then o else o++[((f:Int),l.map (shW (f:Int)))]) ((f:Int) + ((p.length:Int) + 1))) = some (out,e1,e2):=hq2
          rw [if_neg (by first | exact hbad | exact Int.not_le.2 hbad),znf f j p hpl] at hq'
          have hmea:=zrY hle9
          by_cases hl0:l = []
          ·rw [if_pos hl0] at hq'
           have hz:¬ (0:Int) < (l.length:Int):=by rw [hl0]; decide
           obtain ⟨hfin⟩:Nonempty (Shut ((∃ (ps:List (List UInt8)) (o:List (Int × List Wd)) (vs:List Value) (f2:Nat),Value.int .i64 ((f + j + 1:Nat):Int) = .int .i64 (f2:Int)/\z8 rowL ps o (f2:Int) = some (out,e1,e2)/\((f2 <= S.size/\ps = yF 10 (S.data.toList.drop f2)) ∨ (f2 = S.size + 1/\ps = []))/\RS (N + 1) w wr u4 vs o/\wr.heap[N]? = some (.cells #[.int .i64 0,.int .i64 0] 30 (0,0))/\o.length <= f2))) :=
            ⟨⟨ps2,o,vs,f + j + 1,rfl,hq',hps9,hRS2,hb2,zng hol⟩⟩
           have hw2:=znd f j (zuk hf2) (zuk hn2)
           clear hRS hb0 hN hpl h1000 hn2 hf2 hol b1 b2 b3 b4 hps9 hM hRS2 hb2 hq' hq2 hkeep hcall ho9 ho8 hb9 hi hil hbs hf20 hwb ow x1 hw1 c0 c1 c0f c1f hle9 hex
           go_wp2
           rw [hw2]
           refine ⟨hfin.out,?_⟩
           simp only [intOf]
           exact hmea
          ·rw [if_neg hl0] at hq'
           have hposi:=zgh (List.length_pos_iff.2 hl0)
           obtain ⟨iR,zR,uR,hiR,hzR,hsR,hbR,hcR⟩:=zpJ
           have hown1:(wr.alloc (.cells #[.int .i64 (f:Int),.slice ba l.length cap] 72)).ownsRow (N + 1) 72 2 u4 o.length (Ze o vs):=yG hRS2.own fun g cur hg _ _=>Below.heap_alloc _ _ _ (Array.getElem?_eq_some_iff.1 hg).1
           have hsz9:N + 1 <= (wr.alloc (.cells #[.int .i64 (f:Int),.slice ba l.length cap] 72)).heap.size:=Nat.le_trans hRS2.size (by simp)
           have hom:=zpG hol hf2
           have hom2:=znh hol hf2
           have hblk:∀ W3:World,(wr.alloc (.cells #[.int .i64 (f:Int),.slice ba l.length cap] 72)).grownBy W3 u4.ownBlock->W3.heap[N]? = some (.cells #[.int .i64 0,.int .i64 0] 30 (0,0)):=fun W3 hg=>zkq hRS2.size hRS2.own hg hb2
           obtain ⟨hfin⟩:Nonempty (Shut (∀ (v2:Value) (W3:World),(wr.alloc (.cells #[.int .i64 (f:Int),.slice ba l.length cap] 72)).grownBy W3 u4.ownBlock->W3.ownsRow (N + 1) 72 2 v2 (o.length + 1) (Ze o vs++[.int .i64 (f:Int),.slice ba l.length cap])->(∃ (ps:List (List UInt8)) (o:List (Int × List Wd)) (vs:List Value) (f2:Nat),Value.int .i64 ((f + j + 1:Nat):Int) = .int .i64 (f2:Int)/\z8 rowL ps o (f2:Int) = some (out,e1,e2)/\((f2 <= S.size/\ps = yF 10 (S.data.toList.drop f2)) ∨ (f2 = S.size + 1/\ps = []))/\RS (N + 1) w W3 v2 vs o/\W3.heap[N]? = some (.cells #[.int .i64 0,.int .i64 0] 30 (0,0))/\o.length <= f2))) :=
            ⟨fun v2 W3 hg how=>⟨ps2,_,_,f + j + 1,rfl,hq',hps9,RS.next hM hRS2 ho8 hg how,hblk W3 hg,by rw [List.length_append]; exact zkr hol⟩⟩
           have hw2:=znd f j (zuk hf2) (zuk hn2)
           clear hRS hb0 hN hpl h1000 hn2 hf2 hol b1 b2 b3 b4 hps9 hM hRS2 hb2 hq' hq2 hkeep hcall ho9 ho8 hb9 hi hil hbs hf20 hwb ow x1 hw1 c0 c1 c0f c1f hle9 hex hblk
           go_wp2_with (at_builtin; go_loud (refine wpList_append_own _ rfl _ _ 68 rfl (N + 1) 72 _ zR 2 32 uR hiR hzR hsR hbR hcR (by decide) _ _ _ rfl hown1 ⟨wr.heap.size,0,none⟩ 1 1 [.int .i64 (f:Int),.slice ba l.length cap] rfl rfl ?d1 ?d2 ?d3 ?d4 ?d5 ?_))
           case d1=>exact zd2 wr _ _ _ _ rfl
           case d2=>first | (intro u hu; simp at hu; rcases hu with rfl | rfl <;> rfl) | simp [Value.oneCell']
           case d3=>exact hom
           case d4=>exact hom2
           case d5=>first | exact hsz9 | (simp at hsz9; exact hsz9)
           intro v2 W3 hown2 hg2 _
           have hfin2:=hfin.out v2 W3 hg2 hown2
           obtain ⟨hfin3⟩:Nonempty (Shut _):=⟨hfin2⟩
           clear hfin hfin2 hown1 hown2 hg2 hsz9 hom hom2
           go_wp2
           rw [hw2]
           refine ⟨hfin3.out,?_⟩
           simp only [intOf]
           exact hmea
  ·simp only [z8,zuf,Prod.mk.injEq] at hq
   have hgt:¬ ((S.size + 1:Nat):Int) <= (S.size:Int):=zpH
   obtain ⟨hkeep⟩:Nonempty (Shut ((o = out/\0 = e1/\0 = e2)/\RS (N + 1) w wr u4 vs o/\wr.heap[N]? = some (.cells #[.int .i64 0,.int .i64 0] 30 (0,0))/\w.heap.size = N)):=⟨⟨hq,hRS,hb0,hN⟩⟩
   clear hq hRS hb0 hR hRb hr hol hN
   go_wp2
   obtain ⟨⟨rfl,rfl,rfl⟩,hRS,hb0,hN2⟩:=hkeep.out
   refine zb7 (a:=0) (b:=0) (zaB hb0 0 0) rfl rfl ?_
   have hMN:w.heap.size <= N:=Nat.le_of_eq hN2
   first
    | exact ⟨_,vs,rfl,ZC hRS.bel hN2 hb0 _ _,zfn hRS.own hMN _ _,hRS.len,fun i b ws u h1 h2=>zfn (hRS.rows i b ws u h1 h2) hMN _ _⟩
    | exact ⟨_,rfl,ZC hRS.bel hN2 hb0 _ _,vs,zfn hRS.own hMN _ _,hRS.len,fun i b ws u h1 h2=>zfn (hRS.rows i b ws u h1 h2) hMN _ _⟩
end Go.Seq
