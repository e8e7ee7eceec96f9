import Derived.Test.YtjcbpfhlgebgdaaGreatDoorXRw
import Derived.Test.YtjcbpfhlgebgdaaGreatDoorXGRf
import Derived.Test.YtjcbpfhlgebgdaaGreatDoorRoT
set_option linter.unusedSimpArgs false
set_option linter.unusedVariables false
namespace Go.Proofs.YtjcbpfhlgebgdaaGreatDoor
open Go Go.Eng Go.RowKit Go.X Go.Seq
noncomputable def rwF (S:List UInt8) (p:Int):Option (Wd × Int) :=
 if S.length <= 1000 then (yz (S,p)).bind fun r=>if r.2 < 0 ∨ p < r.2 then some ((r.1.At,r.1.Key,r.1.Text),r.2) else none else none
noncomputable def zfc (L:List UInt8):Option (List Wd × Int) :=
 (rrF (qR L) (rwF L) (L.length + 1) [] 0).bind fun r=>if -1 <= r.2/\r.2 <= 1000/\r.1.length <= 1001/\∀ x ∈ r.1,(0 <= x.1/\x.1 <= 1000)/\x.2.1.length <= 1001/\x.2.2.length <= 1001 then some r else none
theorem zk9 {W:World} {pr:Nat->Nat->Prop} (hl:HL W pr) {L:ByteArray} {p:Int} {r:Wd} {q:Int} (h:rwF L.data.toList p = some (r,q)) :
  Calls Tryz.prog 104 #[.string L,.int .i64 p] W fun e W'=>e = .returned (.tuple #[zd6 r,.int .i64 q])/\Below W.heap.size W W':=by
 unfold rwF at h
 split at h
 case isFalse=>cases h
 rename_i hlen
 obtain ⟨⟨⟨a,k,t⟩,q1⟩,hg,h⟩:=bind_some h
 split at h
 case isFalse=>cases h
 cases h
 have hfn:=yz.fn (L.data.toList,p) _ hg W pr (fun _=>none) #[.string L,.int .i64 p] hl (by
  simp only [yr,qT,qa,refl,YP,zbH,zg,toV,RL,R]
  exact ⟨_,_,rfl,⟨by rw [zmF],by unfold maxLen; omega⟩,_,_,rfl,rfl,rfl⟩) (fun i B h=>by simp at h) (fun i j b h=>by cases h) (fun _ _=>rfl)
 refine hfn.mono ?_
 rintro en W' ⟨v,pr',rfl,hr,_,hk⟩
 refine ⟨?_,⟨hk.os,hk.tape,hk.output,hk.size,fun k h=>hk.block k h (fun i e=>by cases e)⟩⟩
 change R _ (.tup [.agg [.int .i64 a,.str k,.str t],.int .i64 _]) v at hr
 simp only [R,RL] at hr
 obtain ⟨xs,rfl,y,ys,rfl,⟨zs,rfl,⟨y1,ys1,rfl,rfl,y2,ys2,rfl,⟨rfl,_⟩,y3,ys3,rfl,⟨rfl,_⟩,rfl⟩,_⟩,y4,ys4,rfl,rfl,rfl⟩:=hr
 rfl
theorem zmE {w:World} {pr:Nat->Nat->Prop} (hl:HL w pr) (W:World) (L:ByteArray) (l:List Wd) (bad:Int) (hS:L.size <= 1000) (hb:Below w.heap.size w W) (h:zfc L.data.toList = some (l,bad)) :
  Calls Tryz.prog 69 #[.string L] W fun e W'=>∃ v,e = .returned (.tuple #[v,.int .i64 bad])/\Below W.heap.size W W'/\W'.ownsRow W.heap.size 57 3 v l.length (Seq.cellsW l):=by
 unfold zfc at h
 obtain ⟨r,hr,h⟩:=bind_some h
 split at h
 case isFalse=>cases h
 cases h
 rw [ziL] at hr
 refine zsC L (by omega) (rwF L.data.toList) W (fun W1 p r q hb1 hw=>zk9 (za3 (za3 hl hb) hb1) hw) (fun p r q hw hq=>?_) hr
 unfold rwF at hw
 split at hw
 ·obtain ⟨z,_,hw⟩:=bind_some hw
  split at hw
  ·rename_i hz
   cases hw
   rcases hz with hz | hz
   ·exact absurd hz (Int.not_lt.2 hq)
   ·exact hz
  ·cases hw
 ·cases hw
theorem zdI {rowL:List UInt8->Option (List Wd × Int)} {Q:Wd->Prop} (hQ:∀ p l bad x a,rowL p = some (l,bad)->x ∈ l->Q (shW a x)) :
  ∀ {ps:List (List UInt8)} {o out:List (Int × List Wd)} {a e1 e2:Int},(∀ r ∈ o,∀ x ∈ r.2,Q x)->z8 rowL ps o a = some (out,e1,e2)->∀ r ∈ out,∀ x ∈ r.2,Q x
 | [],o,out,a,e1,e2,ho,h=>by cases h; exact ho
 | p :: ps,o,out,a,e1,e2,ho,h=>by
  rw [z8] at h
  split at h
  ·cases h; intro r hr; cases hr
  ·obtain ⟨⟨l,bad⟩,hl,h⟩:=bind_some h
   split at h
   ·cases h; intro r hr; cases hr
   ·refine zdI hQ ?_ h
    split
    ·exact ho
    ·intro r hr x hx
     rcases List.mem_append.1 hr with hr | hr
     ·exact ho r hr x hx
     ·simp only [List.mem_singleton] at hr
      subst hr
      obtain ⟨y,hy,rfl⟩:=List.mem_map.1 hx
      exact hQ p l bad y a hl hy
noncomputable def yp (s:List UInt8):Option (List Row × Fault) :=
 if 20000 < s.length then some ([],⟨4,20000⟩) else (z8 zfc (yF 10 s) [] 0).map fun r=>(r.1.map zcu,⟨r.2.1,r.2.2⟩)
set_option maxRecDepth 20000 in
set_option maxHeartbeats 8000000 in
theorem zqD (S:ByteArray) (hS:20000 < S.size) (w:World) :
  Calls Tryz.prog 34 #[.string S] w fun en w'=>en = .returned (.tuple #[.slice none 0 0,.agg #[.int .i64 4,.int .i64 20000]])/\Below w.heap.size w w':=by
 have mixed:Tryz.prog.follows .mixedOrders = true:=by kernel_rfl
 have hSi:(20000:Int) < (S.size:Int):=by omega
 go_enter Tryz.func34,Tryz.ntmps34
 go_wp2
 refine zb7 (a:=4) (b:=20000) (ahn w _) rfl rfl ?_
 exact ⟨rfl,(Below.refl _ _).alloc (Nat.le_refl _) _⟩
theorem yp.fn:FnT Tryz.prog 34 [.d .str] [.l_Row,.Fault] yp:=by
 intro (x:List UInt8) r h
 intro w pr lam cargs hl hargs _ _ _
 simp only [yr,qT,qa,refl,YP,zg,toV,RL,R] at hargs
 obtain ⟨y,ys,e,⟨rfl,hs⟩,rfl⟩:=hargs
 have hc':cargs = #[.string ⟨x.toArray⟩]:=by rw [<- Array.toList_inj]; simpa using e
 subst hc'
 have hsz:(⟨x.toArray⟩:ByteArray).size = x.length:=List.size_toArray
 have hF:∀ (E:Env) (a b:Int),R E (.agg [.int .i64 a,.int .i64 b]) (.agg #[.int .i64 a,.int .i64 b]):=fun E a b=>by
  simp only [R,RL]
  exact ⟨_,rfl,⟨_,_,rfl,rfl,_,_,rfl,rfl,rfl⟩,by simp [Value.oneCell']⟩
 unfold yp at h
 split at h
 ·rename_i hlong
  cases h
  refine (zqD ⟨x.toArray⟩ (by rw [hsz]; exact hlong) w).mono ?_
  rintro en w' ⟨rfl,hb⟩
  refine ⟨_,pr,rfl,?_,fun i B h=>by simp at h,⟨hb.os,hb.tape,hb.output,DLE.any _ _,hb.size,fun k hk _=>hb.block k hk,fun _ _ h=>h,fun _ _ h=>.inl h⟩⟩
  have hF':=hF ⟨w',pr,lam⟩ 4 20000
  show R _ (.tup [.list [],.agg [.int .i64 4,.int .i64 20000]]) _
  simp only [R,RL] at hF' ⊢
  exact ⟨_,rfl,_,_,rfl,⟨none,0,rfl,Nat.le_refl _,Nat.zero_le _,.inl (by simp)⟩,_,_,rfl,hF',rfl⟩
 ·rename_i hshort
  cases hq:z8 zfc (yF 10 x) [] 0 with
  | none=>rw [hq] at h; cases h
  | some t =>
  obtain ⟨out,e1,e2⟩:=t
  rw [hq] at h
  cases h
  have hmem:∀ r ∈ out,∀ y ∈ r.2,y.2.1.length <= 1001/\y.2.2.length <= 1001:=zdI (Q:=fun y=>y.2.1.length <= 1001/\y.2.2.length <= 1001) (fun p l bad y a hl hy=>by
   unfold zfc at hl
   obtain ⟨r,_,hl⟩:=bind_some hl
   split at hl
   ·rename_i hg
    cases hl
    exact (hg.2.2.2 y hy).2
   ·cases hl) (fun r hr=>by cases hr) hq
  refine (zlQ zfc ⟨x.toArray⟩ (by rw [hsz]; omega) w (fun W L l bad hL hb hr=>zmE hl W L l bad hL hb hr) (fun L l bad _ hr=>by
   unfold zfc at hr
   obtain ⟨r,_,hr⟩:=bind_some hr
   split at hr
   ·rename_i hg
    cases hr
    exact ⟨hg.1,hg.2.1,hg.2.2.1,fun x hx=>(hg.2.2.2 x hx).1⟩
   ·cases hr) (out:=out) (e1:=e1) (e2:=e2) hq).mono ?_
  rintro en w' ⟨v,vs,rfl,hb,how,hlen,hrows⟩
  refine ⟨_,fun b o=>pr b o ∨ (w.heap.size <= b/\b < w'.heap.size),rfl,?_,fun i B h=>by simp at h,⟨hb.os,hb.tape,hb.output,DLE.any _ _,hb.size,fun k hk _=>hb.block k hk,fun _ _ h=>.inl h,fun _ _ h=>h⟩⟩
  show R _ (.tup [.list ((out.map zcu).map zaV),.agg [.int .i64 e1,.int .i64 e2]]) _
  have hL:R ⟨w',fun b o=>pr b o ∨ (w.heap.size <= b/\b < w'.heap.size),lam⟩ (.list ((out.map zcu).map zaV)) v:=by
   refine zqJ how rfl (fun b o h1 h2=>Or.inr ⟨h1,h2⟩) _ (by simp) fun i r hi=>?_
   rw [List.map_map,List.getElem?_map] at hi
   cases ho:out[i]? with
   | none=>rw [ho] at hi; cases hi
   | some t =>
   obtain ⟨a,ws⟩:=t
   rw [ho] at hi
   cases hi
   have hil:i < out.length:=(List.getElem?_eq_some_iff.1 ho).1
   obtain ⟨u,hu⟩:∃ u,vs[i]? = some u:=⟨vs[i]'(by omega),List.getElem?_eq_getElem _⟩
   obtain ⟨c1,c2⟩:=zeq ho hu
   have hwl:=hrows i a ws u ho hu
   have hRu:R ⟨w',fun b o=>pr b o ∨ (w.heap.size <= b/\b < w'.heap.size),lam⟩ (.list ((ws.map fun x=>(⟨x.1,x.2.1,x.2.2⟩:Word)).map QQ)) u:=by
    refine zqJ hwl rfl (fun b o h1 h2=>Or.inr ⟨h1,h2⟩) _ (by simp) fun j r hj=>?_
    rw [List.map_map,List.getElem?_map] at hj
    cases hx:ws[j]? with
    | none=>rw [hx] at hj; cases hj
    | some t =>
    obtain ⟨p,k,q⟩:=t
    rw [hx] at hj
    cases hj
    obtain ⟨d1,d2,d3⟩:=zep hx
    have hm:=hmem (a,ws) (List.mem_of_getElem? ho) (p,k,q) (List.mem_of_getElem? hx)
    dsimp only at hm
    refine ⟨.agg #[.int .i64 p,.string ⟨k.toArray⟩,.string ⟨q.toArray⟩],?_,rfl,fun j' z hz=>?_⟩
    ·show R _ (.agg [.int .i64 p,.str k,.str q]) _
     simp only [R,RL]
     exact ⟨_,rfl,⟨_,_,rfl,rfl,_,_,rfl,⟨rfl,by unfold maxLen; omega⟩,_,_,rfl,⟨rfl,by unfold maxLen; omega⟩,rfl⟩,by simp [Value.oneCell']⟩
    ·match j',hz with
     | 0,hz=>simp [Value.cells] at hz; subst hz; exact ⟨d1,rfl⟩
     | 1,hz=>simp [Value.cells] at hz; subst hz; exact ⟨d2,rfl⟩
     | 2,hz=>simp [Value.cells] at hz; subst hz; exact ⟨d3,rfl⟩
     | j' + 3,hz=>simp [Value.cells] at hz
   obtain ⟨bu,cu,rfl⟩:=YK hwl
   refine ⟨.agg #[.int .i64 a,.slice bu ws.length cu],?_,rfl,fun j z hz=>?_⟩
   ·show R _ (.agg [.int .i64 a,.list ((ws.map fun x=>(⟨x.1,x.2.1,x.2.2⟩:Word)).map QQ)]) _
    have hRu':=hRu
    rw [R]
    refine ⟨_,rfl,?_,by simp [Value.oneCell']⟩
    rw [RL]
    refine ⟨_,_,rfl,by simp only [R],?_⟩
    rw [RL]
    refine ⟨_,_,rfl,hRu',?_⟩
    rw [RL]
   ·match j,hz with
    | 0,hz=>simp [Value.cells] at hz; subst hz; exact ⟨c1,rfl⟩
    | 1,hz=>simp [Value.cells] at hz; subst hz; exact ⟨c2,rfl⟩
    | j + 2,hz=>simp [Value.cells] at hz
  have hF':=hF ⟨w',fun b o=>pr b o ∨ (w.heap.size <= b/\b < w'.heap.size),lam⟩ e1 e2
  rw [R]
  refine ⟨_,rfl,?_⟩
  rw [RL]
  refine ⟨_,_,rfl,hL,?_⟩
  rw [RL]
  refine ⟨_,_,rfl,hF',?_⟩
  rw [RL]
noncomputable def yp.spec:ze Tryz.prog:=ze.t 34 [.d .str] [.l_Row,.Fault] yp (by kernel_rfl) yp.fn
end Go.Proofs.YtjcbpfhlgebgdaaGreatDoor
