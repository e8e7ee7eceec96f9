import Derived.Test.YtjcbpfhlgebgdaaGreatDoorXQd
import Derived.Test.YtjcbpfhlgebgdaaGreatDoorRoW
set_option linter.unusedSimpArgs false
set_option linter.unusedVariables false
namespace Go.Proofs.YtjcbpfhlgebgdaaGreatDoor
open Go Go.Eng Go.RowKit Go.X Go.Seq
theorem za3 {w W:World} {pr:Nat->Nat->Prop} (h:HL w pr) (hb:Below w.heap.size w W):HL W pr :=
 ⟨fun b o hp=>Nat.lt_of_lt_of_le (h.lt b o hp) hb.size,fun g vs hg=>by
  obtain ⟨⟨ty,h1⟩,h2⟩:=h.glob g vs hg
  exact ⟨⟨ty,(hb.block g (Array.getElem?_eq_some_iff.1 h1).1).trans h1⟩,h2⟩⟩
theorem zla {f:FuncId} {g:List UInt8->Option Bool} (hg:FnT Tryz.prog f [.d .str] [.bool] g) {W:World} {pr:Nat->Nat->Prop} (hl:HL W pr) {l:List UInt8} (hle:l.length <= maxLen) {b:Bool} (h:g l = some b) :
  Calls Tryz.prog f #[.string ⟨l.toArray⟩] W fun e W'=>e = .returned (.bool b)/\Below W.heap.size W W':=by
 have hfn:=hg _ _ h W pr (fun _=>none) #[.string ⟨l.toArray⟩] hl (by
  simp only [yr,qT,qa,refl,YP,zg,toV,RL,R]
  exact ⟨_,_,rfl,⟨rfl,hle⟩,rfl⟩) (fun i B h=>by simp at h) (fun i j b h=>by cases h) (fun _ _=>rfl)
 refine hfn.mono ?_
 rintro en W' ⟨v,pr',rfl,hr,_,hk⟩
 refine ⟨?_,⟨hk.os,hk.tape,hk.output,hk.size,fun k h=>hk.block k h (fun i e=>by cases e)⟩⟩
 change R _ (.bool b) v at hr
 simp only [R] at hr
 rw [hr]
noncomputable def zgV (l:List UInt8):Option Bool:=if l.length <= 1000000 then qP l else none
noncomputable def zlb (l:List UInt8):Option Bool:=if l.length <= 1000000 then Zi l else none
noncomputable def qdF (S:ByteArray) (p:Int):Option ((List UInt8 × Bool) × Int):=(zu () ⟨S.data.toList,p⟩).map fun r=>(r.1,r.2.pos)
noncomputable def bdF (S:ByteArray) (p:Int):Option ((List UInt8 × Bool) × Int):=if 0 <= p/\p <= (S.size:Int) then zhw S (qdF S) zgV p else none
noncomputable def wdF (S:ByteArray) (p:Int):Option ((Wd × Bool) × Int):=if 0 <= p/\p <= (S.size:Int) then zgl S zlb (bdF S) p else none
theorem zmF (S:ByteArray):(⟨S.data.toList.toArray⟩:ByteArray) = S:=by cases S; simp
theorem zqE {S:ByteArray} {W:World} {s:Nat} {p:Int} (h:Bx s S W p):Calls Tryz.prog 99 #[.pointer (some ⟨s,0,none⟩)] W fun e W'=>e = .returned (.bool (decide (p < (S.size:Int))))/\Bx s S W' p/\Fr s W W':=by
 refine (zlg s S W p h).mono ?_
 rintro e W' ⟨rfl,m,rfl⟩
 exact ⟨rfl,h,Fr.drewN _ _ _⟩
theorem zmG {S:ByteArray} (hS:S.size <= 1000000) {W:World} {pr:Nat->Nat->Prop} (hl:HL W pr) {s:Nat} (hs:∀ o,¬ pr s o) {p:Int} (h:Bx s S W p) {r:List UInt8 × Bool} {p':Int} (hq:qdF S p = some (r,p')) :
  Calls Tryz.prog 139 #[.pointer (some ⟨s,0,none⟩)] W fun e W'=>e = .returned (.tuple #[.string ⟨r.1.toArray⟩,.bool r.2])/\Bx s S W' p'/\Fr s W W':=by
 unfold qdF at hq
 cases hg:zu () ⟨S.data.toList,p⟩ with
 | none=>rw [hg] at hq; cases hq
 | some t =>
 obtain ⟨r1,y⟩:=t
 rw [hg] at hq
 simp only [Option.map_some,Option.some.injEq,Prod.mk.injEq] at hq
 obtain ⟨rfl,rfl⟩:=hq
 have hys:y.s = S.data.toList:=by
  unfold zu at hg
  split at hg
  ·obtain ⟨z,_,hz⟩:=Option.map_eq_some_iff.1 hg
   cases hz; rfl
  ·cases hg
 have hl2:S.data.toList.length = S.size:=Array.length_toList
 refine (zfv zu.fn hl hs (S:=S.data.toList) (by unfold maxLen; omega) (by rw [zmF]; exact h) hg).mono ?_
 rintro e W' ⟨v,E,rfl,hr,h1,h2⟩
 rw [hys,zmF] at h1
 refine ⟨?_,h1,h2⟩
 have hr':R E (.tup [.str r1.1,.bool r1.2]) v:=hr
 simp only [R,RL] at hr'
 obtain ⟨xs,rfl,y,ys,rfl,⟨rfl,_⟩,y2,ys2,rfl,rfl,rfl⟩:=hr'
 rfl
theorem zqF {len:Int} {nx:Int->Option (Int × Int)} {es:Int->Option ((Int × Bool) × Int)} (hn:∀ p c p',p < len->nx p = some (c,p')->p < p') (he:∀ p c p',es p = some (c,p')->p <= p') :
  ∀ {k:Nat} {acc:List UInt8} {p:Int} {r:List UInt8 × Bool} {q:Int},qF len nx es k acc p = some (r,q)->p <= q
 | 0,acc,p,r,q,h=>by cases h
 | k + 1,acc,p,r,q,h=>by
  unfold qF at h
  split at h
  ·rename_i hp
   obtain ⟨⟨c,p1⟩,h1,h⟩:=bind_some h
   have g1:=hn _ _ _ hp h1
   dsimp only at h
   split at h
   ·cases h; omega
   ·split at h
    ·obtain ⟨⟨e,p2⟩,h2,h⟩:=bind_some h
     have g2:=he _ _ _ h2
     dsimp only at h
     split at h
     ·have:=zqF hn he h; omega
     ·cases h; omega
    ·split at h
     ·have:=zqF hn he h; omega
     ·cases h; omega
  ·cases h; omega
theorem zqG {S:ByteArray} {p:Int} {r:List UInt8 × Bool} {q:Int} (h:qdF S p = some (r,q)):p <= q/\r.1.length <= S.size + 1:=by
 unfold qdF at h
 cases hg:zu () ⟨S.data.toList,p⟩ with
 | none=>rw [hg] at h; cases h
 | some t =>
 rw [hg] at h
 simp only [Option.map_some,Option.some.injEq,Prod.mk.injEq] at h
 unfold zu at hg
 split at hg
 ·rename_i hx
  obtain ⟨⟨⟨a,ok⟩,q1⟩,hz,rfl⟩:=Option.map_eq_some_iff.1 hg
  obtain ⟨rfl,rfl⟩:=h
  have hl2:S.data.toList.length = S.size:=Array.length_toList
  refine ⟨?_,by have:=zjB hz; simp at this ⊢; omega⟩
  refine zqF (fun p c p' hp hn=>?_) (fun p c p' hn=>?_) hz
  ·unfold nxF at hn
   cases hg:zb () ⟨S.data.toList,p⟩ with
   | none=>rw [hg] at hn; cases hn
   | some t =>
    rw [hg] at hn
    cases hn
    have:=(zch hg).2
    dsimp only at hp
    omega
  ·unfold esF at hn
   split at hn
   ·rename_i hle
    cases hg:zH () ⟨S.data.toList,p⟩ with
    | none=>rw [hg] at hn; cases hn
    | some t =>
     rw [hg] at hn
     cases hn
     exact (zgU (c:=t.1.1) (b:=t.1.2) (y:=t.2) hg hle).2.1
   ·cases hn
 ·cases hg
theorem zqH:zgV [] ≠ some true:=by
 intro h
 unfold zgV at h
 rw [if_pos (by simp)] at h
 unfold qP at h
 obtain ⟨z,hz,h⟩:=bind_some h
 rw [qE] at hz
 have hz':some (Sum.inr ()) = some z:=hz
 cases hz'
 cases h
theorem zjC {S:ByteArray} {p:Int} {r:List UInt8 × Bool} {q:Int} (h:bdF S p = some (r,q)):0 <= p/\p <= q/\(r.2 = true->p < q)/\r.1.length <= S.size + 1:=by
 unfold bdF at h
 split at h
 case isFalse=>cases h
 rename_i hp
 unfold zhw at h
 split at h
 ·have:=zqG h
  exact ⟨hp.1,by omega,fun _=>by omega,this.2⟩
 ·obtain ⟨b,hb,h⟩:=Option.map_eq_some_iff.1 h
  cases h
  have hl2:S.data.toList.length = S.size:=Array.length_toList
  refine ⟨hp.1,by omega,fun hr=>?_,by simp only [List.length_take,List.length_drop]; omega⟩
  have hr':b = true:=hr
  subst hr'
  rcases Nat.eq_zero_or_pos (yj (S.data.toList.drop p.toNat)) with h0 | h0
  ·rw [h0,List.take_zero] at hb
   exact absurd hb zqH
  ·omega
theorem za4 {S:ByteArray} {p:Int} {r:Wd × Bool} {q:Int} (h:wdF S p = some (r,q)):0 <= p/\p <= (S.size:Int)/\r.1.1 = p/\r.1.2.1.length <= S.size + 1/\∃ p1 t,p <= p1/\bdF S p1 = some (t,q)/\r.1.2.2 = t.1/\(r.2 = true->t.2 = true):=by
 unfold wdF at h
 split at h
 case isFalse=>cases h
 rename_i hp
 have hl2:S.data.toList.length = S.size:=Array.length_toList
 refine ⟨hp.1,hp.2,?_⟩
 have fin:∀ (k:List UInt8) (p1:Int),k.length <= S.size + 1->p <= p1->((bdF S p1).bind fun r=>some (((p,k,r.1.1),r.1.2 && (decide ((S.size:Int) <= r.2) || decide (S.data[r.2.toNat]? = some 32))),r.2)) = some (r,q) ->
   r.1.1 = p/\r.1.2.1.length <= S.size + 1/\∃ p1 t,p <= p1/\bdF S p1 = some (t,q)/\r.1.2.2 = t.1/\(r.2 = true->t.2 = true):=fun k p1 hk hp1 h=>by
  obtain ⟨⟨t,q1⟩,h1,h⟩:=bind_some h
  cases h
  exact ⟨rfl,hk,p1,t,hp1,h1,rfl,fun h=>by simp at h; exact h.1⟩
 unfold zgl at h
 split at h
 ·rename_i hi
  obtain ⟨b,_,h⟩:=bind_some h
  split at h
  ·exact fin _ _ (by simp only [List.length_take,List.length_drop]; omega) (by omega) h
  ·exact fin _ _ (by simp) (Int.le_refl _) h
 ·exact fin _ _ (by simp) (Int.le_refl _) h
theorem zs5 {S:ByteArray} {p:Int} {r:Wd × Bool} {q:Int} (h:wdF S p = some (r,q)):r.1.1 = p:=(za4 h).2.2.1
theorem zmH {S:ByteArray} {p:Int} {r:Wd} {q:Int} (h:wdF S p = some ((r,true),q)) (_:0 <= p):p < q:=by
 obtain ⟨_,_,_,_,p1,t,h1,h2,_,h3⟩:=za4 h
 have:=(zjC h2).2.2.1 (h3 rfl)
 omega
theorem zrP {S:ByteArray} {p:Int} {r:Wd × Bool} {q:Int} (h:wdF S p = some (r,q)):r.1.2.1.length <= S.size + 1/\r.1.2.2.length <= S.size + 1:=by
 obtain ⟨_,_,_,h0,p1,t,h1,h2,h3,_⟩:=za4 h
 exact ⟨h0,by rw [h3]; exact (zjC h2).2.2.2⟩
theorem zqI {w:World} {pr:Nat->Nat->Prop} (hl:HL w pr) {S:ByteArray} {W:World} {s:Nat} {p:Int} {r:Wd × Bool} {p':Int} (hS:S.size <= 1000) (hs:w.heap.size <= s) (hb:Below w.heap.size w W) (hx:Bx s S W p) (h:wdF S p = some (r,p')) :
  Calls Tryz.prog 100 #[.pointer (some ⟨s,0,none⟩)] W fun e W'=>e = .returned (.tuple (zhb r))/\Bx s S W' p'/\Fr s W W':=by
 have hsp:∀ o,¬ pr s o:=fun o ho=>by have:=hl.lt s o ho; omega
 have hlW:=za3 hl hb
 have hl2:S.data.toList.length = S.size:=Array.length_toList
 unfold wdF at h
 split at h
 case isFalse=>cases h
 rename_i hp
 refine zrz s S (by omega) zlb (bdF S) W ?_ ?_ ?_ p hp hx r p' h
 ·intro W1 p1 r1 q1 hf hb1 hd
  have hd':=hd
  unfold bdF at hd
  split at hd
  case isFalse=>cases hd
  rename_i hp1
  refine zqT s S (by omega) (qdF S) zgV W1 ?_ ?_ p1 hp1 hb1 r1 q1 hd
  ·intro W2 p2 r2 q2 hf2 hb2 hq
   exact zmG (by omega) (zig (zig hlW hf hsp) hf2 hsp) hsp hb2 hq
  ·intro W2 l b hf2 hbb
   unfold zgV at hbb
   split at hbb
   ·exact zla qP.fn (zig (zig hlW hf hsp) hf2 hsp) (by unfold maxLen; omega) hbb
   ·cases hbb
 ·intro W1 l b hf hnm
  unfold zlb at hnm
  split at hnm
  ·exact zla Zi.fn (zig hlW hf hsp) (by unfold maxLen; omega) hnm
  ·cases hnm
 ·intro p1 r1 q1 h1 h0
  have:=zjC h1
  omega
def zcu (r:Int × List Wd):Row:=⟨r.1,r.2.map fun x=>⟨x.1,x.2.1,x.2.2⟩⟩
noncomputable def znG (l:List UInt8):Option (List (Wd × Bool)):=wsF (qR l) (wdF (qR l)) (l.length + 1) 0
noncomputable def Y9 (s:List UInt8):Option (List Row × Fault) :=
 if 20000 < s.length then some ([],⟨4,20000⟩) else (zbB znG (yF 10 s) [] 0).map fun r=>(r.1.map zcu,⟨r.2.1,r.2.2⟩)
theorem zep:∀ {l:List Wd} {i:Nat} {x:Wd},l[i]? = some x->(Seq.cellsW l)[i * 3]? = some (.int .i64 x.1)/\(Seq.cellsW l)[i * 3 + 1]? = some (.string ⟨x.2.1.toArray⟩)/\(Seq.cellsW l)[i * 3 + 2]? = some (.string ⟨x.2.2.toArray⟩)
 | [],i,x,h=>by simp at h
 | y :: l,0,x,h=>by simp at h; subst h; simp [Seq.cellsW]
 | y :: l,i + 1,x,h=>by
  have:=zep (l:=l) (i:=i) (x:=x) (by simpa using h)
  have e:Seq.cellsW (y :: l) = .int .i64 y.1 :: .string ⟨y.2.1.toArray⟩ :: .string ⟨y.2.2.toArray⟩ :: Seq.cellsW l:=rfl
  rw [e]
  have e0:(i + 1) * 3 = i * 3 + 1 + 1 + 1:=by omega
  rw [e0]
  simpa using this
theorem zeq:∀ {o:List (Int × List Wd)} {vs:List Value} {i:Nat} {a:Int} {ws:List Wd} {u:Value},o[i]? = some (a,ws)->vs[i]? = some u->(Ze o vs)[i * 2]? = some (.int .i64 a)/\(Ze o vs)[i * 2 + 1]? = some u
 | [],vs,i,a,ws,u,h,_=>by simp at h
 | y :: o,[],i,a,ws,u,_,h=>by simp at h
 | (b,x) :: o,v :: vs,0,a,ws,u,h,h2=>by simp at h h2; obtain ⟨rfl,rfl⟩:=h; subst h2; simp [Ze]
 | (b,x) :: o,v :: vs,i + 1,a,ws,u,h,h2=>by
  have:=zeq (o:=o) (vs:=vs) (i:=i) (a:=a) (ws:=ws) (u:=u) (by simpa using h) (by simpa using h2)
  have e:Ze ((b,x) :: o) (v :: vs) = .int .i64 b :: v :: Ze o vs:=rfl
  rw [e,show (i + 1) * 2 = i * 2 + 1 + 1 by omega]
  simpa using this
theorem zqJ {E:Env} {W:World} {base:Nat} {e:TypeId} {size:Nat} {v:Value} {n:Nat} {xs:List Value} (h:W.ownsRow base e size v n xs) (hw:E.w = W) (hpr:∀ b o,base <= b->b < W.heap.size->E.pr b o) (rows:List V) (hn:rows.length = n)
  (hr:∀ (i:Nat) (r:V),rows[i]? = some r->∃ y:Value,R E r y/\y.cells.size = size/\∀ j z,y.cells[j]? = some z->xs[i * size + j]? = some z/\z.oneCell' = true):R E (.list rows) v:=by
 subst hn
 simp only [R]
 obtain ⟨hlen,⟨rfl,h0⟩ | ⟨g,cap,cur,rfl,hge,hh,hcap,hmax,hcs,htake⟩⟩:=h
 ·have:rows = []:=List.eq_nil_of_length_eq_zero h0
  subst this
  exact ⟨none,0,rfl,Nat.le_refl _,Nat.zero_le _,.inl ⟨rfl,rfl⟩⟩
 ·refine ⟨_,cap,rfl,hcap,hmax,.inr ⟨g,0,size,rfl,RR.of_get fun i r hi=>?_⟩⟩
  obtain ⟨y,h1,h2,h3⟩:=hr i r hi
  refine ⟨y,h1,h2,fun j z hz=>?_⟩
  obtain ⟨h4,h5⟩:=h3 j z hz
  refine ⟨⟨?_,hpr _ _ hge (Array.getElem?_eq_some_iff.1 hh).1⟩,h5⟩
  rw [hw]
  have hlt:i * size + j < rows.length * size:=by
   have:=(List.getElem?_eq_some_iff.1 h4).1
   omega
  rw [<- htake,List.getElem?_take_of_lt hlt] at h4
  simp only [World.cell?,hh,Nat.zero_add]
  simpa using h4
set_option maxRecDepth 20000 in
set_option maxHeartbeats 8000000 in
theorem zoE (S:ByteArray) (hS:20000 < S.size) (w:World) :
  Calls Tryz.prog 29 #[.string S] w fun en w'=>en = .returned (.tuple #[.slice none 0 0,.agg #[.int .i64 4,.int .i64 20000]])/\Below w.heap.size w w':=by
 refine (callsIn_wide (n:=5)).1 ?_
 refine callsIn_of_wp_marks Tryz.func29 rfl trivial ?_ rfl
 simp only [Tryz.ntmps29,List.size_toArray,List.length_cons,List.length_nil,Nat.reduceAdd,Nat.reduceSub,Array.replicate_succ,Array.replicate_zero,List.push_toArray,List.append_toArray,List.nil_append,List.cons_append]
 have mixed:Tryz.prog.follows .mixedOrders = true:=by kernel_rfl
 have hSi:(20000:Int) < (S.size:Int):=by omega
 gi_wp2
 refine ⟨.tuple #[.slice none 0 0,.agg #[.int .i64 4,.int .i64 20000]],?_,rfl,?_⟩
 ·simp [results,Tryz.f29,go_sem]
 ·exact ((Below.refl _ _).alloc (Nat.le_refl _) _).alloc (by simp) _
end Go.Proofs.YtjcbpfhlgebgdaaGreatDoor
