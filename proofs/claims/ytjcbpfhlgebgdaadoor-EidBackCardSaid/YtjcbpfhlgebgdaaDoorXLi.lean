import Derived.Test.YtjcbpfhlgebgdaaDoorXGPa
import Derived.Test.YtjcbpfhlgebgdaaDoorSL
set_option linter.unusedSimpArgs false
set_option linter.unusedVariables false
namespace Go.Proofs.YtjcbpfhlgebgdaaDoor
open Go Go.Eng Go.RowKit Go.X Go.Seq
noncomputable def parseF (p:List UInt8):Option (Int × Int × Int × Int):=if p.length < 100000 then (eid_Parse p).map fun r=>(r.1.Low,r.1.High,r.1.Service,r.2) else none
theorem hl_below {w W:World} {pr:Nat→Nat→Prop} (h:HL w pr) (hb:Below w.heap.size w W):HL W pr :=
 ⟨fun b o hp=>Nat.lt_of_lt_of_le (h.lt b o hp) hb.size,fun g vs hg=>by
  obtain ⟨⟨ty,h1⟩,h2⟩:=h.glob g vs hg
  exact ⟨⟨ty,(hb.block g (Array.getElem?_eq_some_iff.1 h1).1).trans h1⟩,h2⟩⟩
theorem parse_calls {w:World} {pr:Nat→Nat→Prop} (hl:HL w pr) (W:World) (p:ByteArray) (a b c err:Int) (hb:Below w.heap.size w W) (hp:parseF p.data.toList = some (a,b,c,err)) :
  Calls Tryd.prog 45 #[.string p] W fun en W'=>en = .returned (.tuple #[.agg #[.int .i64 a,.int .i64 b,.int .i64 c],.int .i64 err])∧Below W.heap.size W W':=by
 unfold parseF at hp
 split at hp
 case isFalse=>cases hp
 rename_i hlen
 cases hq:eid_Parse p.data.toList with
 | none=>rw [hq] at hp; cases hp
 | some r =>
 obtain ⟨⟨l,h,s⟩,er⟩:=r
 rw [hq] at hp
 cases hp
 have hpp:p = ⟨p.data.toList.toArray⟩:=by cases p; simp
 have hle:p.data.toList.length ≤ maxLen:=by unfold maxLen; omega
 have hfn:=eid_Parse.fn _ _ hq W pr (fun _=>none) #[.string p] (hl_below hl hb) (by
  simp only [buildA,reflC,dataOf,refl,refl_str,toVL,toV,RL,R]
  exact ⟨_,_,rfl,⟨by rw [← hpp],hle⟩,rfl⟩) (fun i B h=>by simp at h) (fun i j b h=>by cases h) (fun _ _=>rfl)
 refine hfn.mono ?_
 rintro en W' ⟨v,pr',rfl,hr,_,hk⟩
 refine ⟨?_,⟨hk.os,hk.tape,hk.output,hk.size,fun k h=>hk.block k h (fun i e=>by cases e)⟩⟩
 change R _ (.tup [.agg [.int .i64 l,.int .i64 h,.int .i64 s],.int .i64 er]) v at hr
 simp only [R,RL] at hr
 obtain ⟨xs,rfl,y,ys,rfl,⟨zs,rfl,⟨y1,ys1,rfl,rfl,y2,ys2,rfl,rfl,y3,ys3,rfl,rfl,rfl⟩,_⟩,y4,ys4,rfl,rfl,rfl⟩:=hr
 rfl
theorem cells3_at:∀ {l:List (Int × Int × Int)} {i:Nat} {x:Int × Int × Int},l[i]? = some x→(cells3 l)[i * 3]? = some (.int .i64 x.1)∧(cells3 l)[i * 3 + 1]? = some (.int .i64 x.2.1)∧(cells3 l)[i * 3 + 2]? = some (.int .i64 x.2.2)
 | [],i,x,h=>by simp at h
 | y :: l,0,x,h=>by simp at h; subst h; simp [cells3]
 | y :: l,i + 1,x,h=>by
  have:=cells3_at (l:=l) (i:=i) (x:=x) (by simpa using h)
  have e:cells3 (y :: l) = .int .i64 y.1 :: .int .i64 y.2.1 :: .int .i64 y.2.2 :: cells3 l:=rfl
  rw [e]
  have e0:(i + 1) * 3 = i * 3 + 1 + 1 + 1:=by omega
  rw [e0]
  simpa using this
noncomputable def eid_List (s:List UInt8):Option (List EID × Fault) :=
 if s.length < 100000 then (if s = [] then some ([],⟨0,0⟩) else (listF parseF (pieces 44 s) [] 0).map fun r=>(r.1.map fun x=>⟨x.1,x.2.1,x.2.2⟩,⟨r.2.1,r.2.2⟩)) else none
theorem eid_List.fn:FnT Tryd.prog 47 [.d .str] [.l_EID,.Fault] eid_List:=by
 intro (x:List UInt8) r h
 have hx:x.length < 100000:=by
  unfold eid_List at h
  split at h
  ·assumption
  ·cases h
 unfold eid_List at h
 rw [if_pos hx] at h
 intro w pr lam cargs hl hargs _ _ _
 simp only [buildA,reflC,dataOf,refl,refl_str,toVL,toV,RL,R] at hargs
 obtain ⟨y,ys,e,⟨rfl,hs⟩,rfl⟩:=hargs
 have hc':cargs = #[.string ⟨x.toArray⟩]:=by rw [← Array.toList_inj]; simpa using e
 subst hc'
 by_cases hne:x = []
 ·rw [if_pos hne] at h
  cases h
  refine (list_none ⟨x.toArray⟩ (by simpa using hne) w).mono ?_
  rintro en w' ⟨rfl,hb⟩
  refine ⟨_,pr,rfl,?_,fun i B h=>by simp at h,⟨hb.os,hb.tape,hb.output,DLE.any _ _,hb.size,fun k hk _=>hb.block k hk,fun _ _ h=>h,fun _ _ h=>.inl h⟩⟩
  show R _ (.tup [.list [],.agg [.int .i64 0,.int .i64 0]]) _
  simp only [R,RL]
  exact ⟨_,rfl,_,_,rfl,⟨none,0,rfl,Nat.le_refl _,Nat.zero_le _,.inl (by simp)⟩,_,_,rfl,⟨_,rfl,⟨_,_,rfl,rfl,_,_,rfl,rfl,rfl⟩,by simp [Value.oneCell']⟩,rfl⟩
 ·rw [if_neg hne] at h
  cases hq:listF parseF (pieces 44 x) [] 0 with
  | none=>rw [hq] at h; cases h
  | some t =>
  obtain ⟨out,e1,e2⟩:=t
  rw [hq] at h
  cases h
  have hsz:(⟨x.toArray⟩:ByteArray).size = x.length:=List.size_toArray
  refine (list_in parseF ⟨x.toArray⟩ (by rw [hsz]; exact hx) (by simpa using hne) w (fun W p a b c err hb hp=>parse_calls hl W p a b c err hb hp) (by simpa using hq)).mono ?_
  rintro en w' ⟨v,rfl,how,hb⟩
  refine ⟨_,fun b o=>pr b o ∨ (w.heap.size ≤ b∧b < w'.heap.size),rfl,?_,fun i B h=>by simp at h,⟨hb.os,hb.tape,hb.output,DLE.any _ _,hb.size,fun k hk _=>hb.block k hk,fun _ _ h=>.inl h,fun _ _ h=>h⟩⟩
  show R _ (.tup [.list ((out.map fun x=>(⟨x.1,x.2.1,x.2.2⟩:EID)).map enc_EID),.agg [.int .i64 e1,.int .i64 e2]]) _
  have hF:∀ E:Env,R E (.agg [.int .i64 e1,.int .i64 e2]) (.agg #[.int .i64 e1,.int .i64 e2]):=fun E=>by
   simp only [R,RL]
   exact ⟨_,rfl,⟨_,_,rfl,rfl,_,_,rfl,rfl,rfl⟩,by simp [Value.oneCell']⟩
  have hl:∀ E:Env,(∃ base cap,v = .slice base out.length cap∧out.length ≤ cap∧cap ≤ maxLen∧(((out.map fun x=>(⟨x.1,x.2.1,x.2.2⟩:EID)).map enc_EID) = []∧cap = 0 ∨ ∃ b o k,base = some ⟨b,o,none⟩∧RR E b k o ((out.map fun x=>(⟨x.1,x.2.1,x.2.2⟩:EID)).map enc_EID))) →
    R E (.list ((out.map fun x=>(⟨x.1,x.2.1,x.2.2⟩:EID)).map enc_EID)) v:=fun E ⟨base,cap,h1,h2,h3,h4⟩=>by
   simp only [R]
   exact ⟨base,cap,by rw [h1]; simp,by simpa using h2,h3,h4⟩
  simp only [R,RL]
  refine ⟨_,rfl,_,_,rfl,?_,_,_,rfl,by have:=hF ⟨w',fun b o=>pr b o ∨ (w.heap.size ≤ b∧b < w'.heap.size),lam⟩; simpa only [R,RL] using this,rfl⟩
  have hl':=hl ⟨w',fun b o=>pr b o ∨ (w.heap.size ≤ b∧b < w'.heap.size),lam⟩ ?_
  ·simpa only [R] using hl'
  obtain ⟨hlen,⟨rfl,h0⟩ | ⟨g,cap,cur,rfl,hge,hh,hcap,hmax,hcs,htake⟩⟩:=how
  ·have:out = []:=List.eq_nil_of_length_eq_zero h0
   subst this
   exact ⟨none,0,rfl,Nat.le_refl _,Nat.zero_le _,.inl ⟨rfl,rfl⟩⟩
  ·refine ⟨_,cap,rfl,hcap,hmax,.inr ⟨g,0,3,rfl,RR.of_get fun i r hr=>?_⟩⟩
   rw [List.map_map,List.getElem?_map] at hr
   cases hi:out[i]? with
   | none=>rw [hi] at hr; cases hr
   | some t =>
   obtain ⟨a,b,c⟩:=t
   rw [hi] at hr
   cases hr
   obtain ⟨c1,c2,c3⟩:=cells3_at hi
   have hil:i < out.length:=(List.getElem?_eq_some_iff.1 hi).1
   have hat:∀ j z,j < 3→(cells3 out)[i * 3 + j]? = some z→(⟨w',fun b o=>pr b o ∨ (w.heap.size ≤ b∧b < w'.heap.size),lam⟩:Env).at g (0 + i * 3 + j) z:=fun j z hj hz=>by
    refine ⟨?_,.inr ⟨hge,(Array.getElem?_eq_some_iff.1 hh).1⟩⟩
    rw [← htake,List.getElem?_take_of_lt (by omega)] at hz
    simp only [World.cell?,hh,Nat.zero_add]
    simpa using hz
   refine ⟨.agg #[.int .i64 a,.int .i64 b,.int .i64 c],?_,rfl,fun j z hz=>?_⟩
   ·show R _ (.agg [.int .i64 a,.int .i64 b,.int .i64 c]) _
    simp only [R,RL]
    exact ⟨_,rfl,⟨_,_,rfl,rfl,_,_,rfl,rfl,_,_,rfl,rfl,rfl⟩,by simp [Value.oneCell']⟩
   ·match j,hz with
    | 0,hz=>simp [Value.cells] at hz; subst hz; exact ⟨hat 0 _ (by omega) c1,rfl⟩
    | 1,hz=>simp [Value.cells] at hz; subst hz; exact ⟨hat 1 _ (by omega) c2,rfl⟩
    | 2,hz=>simp [Value.cells] at hz; subst hz; exact ⟨hat 2 _ (by omega) c3,rfl⟩
    | j + 3,hz=>simp [Value.cells] at hz
noncomputable def eid_List.spec:XSpec Tryd.prog:=XSpec.t 47 [.d .str] [.l_EID,.Fault] eid_List (by kernel_rfl) eid_List.fn
end Go.Proofs.YtjcbpfhlgebgdaaDoor
