import Derived.Test.YtgpccllhdcggdaaGreatDoorTX3
import Derived.Deep.RegionHeld3
open List renaming getElem?_eq_getElem -> zys
set_option linter.unusedSimpArgs false
set_option linter.unusedVariables false
noncomputable section
namespace Go.Proofs.YtgpccllhdcggdaaGreatDoor
open Go Go.Eng Go.RowKit Go.X Go.Shelf
set_option maxRecDepth 20000 in
set_option maxHeartbeats 8000000 in
theorem zhA (w:World) (b1 b2 b3:Option Addr) (n1 n2 n3 c1 c2 c3:Nat) (c n:Int) (hc:c ≠ 0)
  (hV:∀ W,Below w.heap.size w W->Calls Tryz.prog 7 #[.agg #[.slice b1 n1 c1,.slice b2 n2 c2,.slice b3 n3 c3]] W fun e W'=>e = .returned (.agg #[.int .i64 c,.int .i64 n])/\Below W.heap.size W W') :
  Calls Tryz.prog 9 #[.agg #[.slice b1 n1 c1,.slice b2 n2 c2,.slice b3 n3 c3]] w fun e W'=>e = .returned (.tuple #[.string ⟨#[]⟩,.int .i64 c])/\Below w.heap.size w W':=by
 have mixed:Tryz.prog.follows .mixedOrders = true:=by kernel_rfl
 have hcb:(c != 0) = true:=bne_iff_ne.2 hc
 have hb0:Below w.heap.size w (w.alloc (zeM b1 b2 b3 n1 n2 n3 c1 c2 c3)):=(Below.refl _ _).alloc (Nat.le_refl _) _
 have hv:=hV _ hb0
 have hst:∀ w1,Below (w.alloc (zeM b1 b2 b3 n1 n2 n3 c1 c2 c3)).heap.size (w.alloc (zeM b1 b2 b3 n1 n2 n3 c1 c2 c3)) w1->Below w.heap.size w w1:=fun w1 hb=>hb0.trans (hb.mono hb0.size)
 unfold zeM at hv hst
 clear hV hb0
 go_enter Tryz.func9,Tryz.ntmps9
 go_wp2_with (go_at_call 7; refine hv.mono ?_; rintro e w1 ⟨rfl,x1⟩; have x2:=hst _ x1; have x3:Below w.heap.size w (w1.alloc (.cells #[.int .i64 c,.int .i64 n] 32)):=x2.alloc x2.size _; clear hv hst x1)
 go_region
 all_goals go_wp2
 all_goals go_ret2
 all_goals exact ⟨rfl,⟨x3.os,x3.tape,x3.output,x3.size,x3.block⟩⟩
theorem zdT {w:World} {pr:Nat->Nat->Prop} {lam:Nat->Option Nat} {b k o i:Nat} {vs cs:List V} (h:RR ⟨w,pr,lam⟩ b k o vs) (hi:vs[i]? = some (.agg cs)) :
  k = cs.length/\∃ xs:List Value,RL ⟨w,pr,lam⟩ cs xs/\∀ j z,xs[j]? = some z->w.cell? ⟨b,o + i * k + j,none⟩ = some z/\pr b (o + i * k + j):=by
 obtain ⟨y,q1,q2,q3⟩:=h.get i _ hi
 simp only [R] at q1
 obtain ⟨xs,rfl,hxs,_⟩:=q1
 have hn:=hxs.length
 simp only [Value.cells,List.size_toArray] at q2
 exact ⟨by omega,xs,hxs,fun j z hz=>(q3 j z (by simpa [Value.cells] using hz)).1⟩
theorem zt0 {w:World} {pr:Nat->Nat->Prop} {lam:Nat->Option Nat} {b o k:Nat} {l:List Config} (hl:HL w pr) (h0:0 < l.length) (h:RR ⟨w,pr,lam⟩ b k o (l.map qN)):ztY w b o l:=by
 have hb0:b < w.heap.size:=by
  obtain ⟨_,xs,h1,h2⟩:=zdT h (i:=0) (cs:=[.int .i64 (l[0].Node),.int .u64 (l[0].Quota),.int .u64 (l[0].Largest),.int .u64 (l[0].Window),.int .u64 (l[0].Low),.int .i64 (l[0].Retry),.int .i64 (l[0].RetryMax),.int .i64 (l[0].Bypass),.int .i64 (l[0].Weights.getD 0 0),.int .i64 (l[0].Weights.getD 1 0),.int .i64 (l[0].Weights.getD 2 0),.int .i64 (l[0].RateN),.int .i64 (l[0].RateD),.int .i64 (l[0].Burst),.int .i64 (l[0].Blocks),.int .i64 (l[0].Rate)]) (by rw [List.getElem?_map,zys h0]; rfl)
  have hx:0 < xs.length:=by rw [<- h1.length]; simp
  exact hl.lt _ _ (h2 0 _ (zys hx)).2
 refine ⟨hb0,fun i x hx W hb=>?_⟩
 obtain ⟨hk,xs,h1,h2⟩:=zdT h (i:=i) (cs:=[.int .i64 (x.Node),.int .u64 (x.Quota),.int .u64 (x.Largest),.int .u64 (x.Window),.int .u64 (x.Low),.int .i64 (x.Retry),.int .i64 (x.RetryMax),.int .i64 (x.Bypass),.int .i64 (x.Weights.getD 0 0),.int .i64 (x.Weights.getD 1 0),.int .i64 (x.Weights.getD 2 0),.int .i64 (x.RateN),.int .i64 (x.RateD),.int .i64 (x.Burst),.int .i64 (x.Blocks),.int .i64 (x.Rate)]) (by rw [List.getElem?_map,hx]; rfl)
 have hk':k = 16:=hk
 subst hk'
 simp only [RL,R] at h1
 obtain ⟨y0,ys0,rfl,rfl,y1,ys1,rfl,rfl,y2,ys2,rfl,rfl,y3,ys3,rfl,rfl,y4,ys4,rfl,rfl,y5,ys5,rfl,rfl,y6,ys6,rfl,rfl,y7,ys7,rfl,rfl,y8,ys8,rfl,rfl,y9,ys9,rfl,rfl,y10,ys10,rfl,rfl,y11,ys11,rfl,rfl,y12,ys12,rfl,rfl,y13,ys13,rfl,rfl,y14,ys14,rfl,rfl,y15,ys15,rfl,rfl,rfl⟩:=h1
 have e:∀ j,W.cell? ⟨b,j,none⟩ = w.cell? ⟨b,j,none⟩:=fun j=>hb.cell (p:=⟨b,j,none⟩) hb0
 simp only [e]
 exact ⟨(h2 0 _ rfl).1,(h2 1 _ rfl).1,(h2 2 _ rfl).1,(h2 3 _ rfl).1,(h2 4 _ rfl).1,(h2 5 _ rfl).1,(h2 6 _ rfl).1,(h2 7 _ rfl).1,(h2 8 _ rfl).1,(h2 9 _ rfl).1,(h2 10 _ rfl).1,(h2 11 _ rfl).1,(h2 12 _ rfl).1,(h2 13 _ rfl).1,(h2 14 _ rfl).1,(h2 15 _ rfl).1⟩
theorem zt1 {w:World} {pr:Nat->Nat->Prop} {lam:Nat->Option Nat} {b o k:Nat} {l:List Command} (hl:HL w pr) (h0:0 < l.length) (h:RR ⟨w,pr,lam⟩ b k o (l.map qe)):ztZ w b o l:=by
 have hb0:b < w.heap.size:=by
  obtain ⟨_,xs,h1,h2⟩:=zdT h (i:=0) (cs:=[.int .i64 (l[0].Kind),.int .i64 (l[0].Node),.int .i64 (l[0].Other),.int .i64 (l[0].N),.int .i64 (l[0].At),.int .i64 (l[0].By),.int .i64 (l[0].Bundle.ID.Node),.int .u64 (l[0].Bundle.ID.Seq),.int .i64 (l[0].Bundle.ID.Off),.int .i64 (l[0].Bundle.Dest),.int .i64 (l[0].Bundle.Prio),.int .i64 (l[0].Bundle.Born),.int .i64 (l[0].Bundle.Life),.int .i64 (l[0].Bundle.Total),.str l[0].Bundle.Data]) (by rw [List.getElem?_map,zys h0]; rfl)
  have hx:0 < xs.length:=by rw [<- h1.length]; simp
  exact hl.lt _ _ (h2 0 _ (zys hx)).2
 refine ⟨hb0,fun i x hx W hb=>?_⟩
 obtain ⟨hk,xs,h1,h2⟩:=zdT h (i:=i) (cs:=[.int .i64 (x.Kind),.int .i64 (x.Node),.int .i64 (x.Other),.int .i64 (x.N),.int .i64 (x.At),.int .i64 (x.By),.int .i64 (x.Bundle.ID.Node),.int .u64 (x.Bundle.ID.Seq),.int .i64 (x.Bundle.ID.Off),.int .i64 (x.Bundle.Dest),.int .i64 (x.Bundle.Prio),.int .i64 (x.Bundle.Born),.int .i64 (x.Bundle.Life),.int .i64 (x.Bundle.Total),.str x.Bundle.Data]) (by rw [List.getElem?_map,hx]; rfl)
 have hk':k = 15:=hk
 subst hk'
 simp only [RL,R] at h1
 obtain ⟨y0,ys0,rfl,rfl,y1,ys1,rfl,rfl,y2,ys2,rfl,rfl,y3,ys3,rfl,rfl,y4,ys4,rfl,rfl,y5,ys5,rfl,rfl,y6,ys6,rfl,rfl,y7,ys7,rfl,rfl,y8,ys8,rfl,rfl,y9,ys9,rfl,rfl,y10,ys10,rfl,rfl,y11,ys11,rfl,rfl,y12,ys12,rfl,rfl,y13,ys13,rfl,rfl,y14,ys14,rfl,⟨rfl,hstr⟩,rfl⟩:=h1
 have e:∀ j,W.cell? ⟨b,j,none⟩ = w.cell? ⟨b,j,none⟩:=fun j=>hb.cell (p:=⟨b,j,none⟩) hb0
 simp only [e]
 exact ⟨(h2 0 _ rfl).1,(h2 1 _ rfl).1,(h2 2 _ rfl).1,(h2 3 _ rfl).1,(h2 4 _ rfl).1,(h2 5 _ rfl).1,(h2 6 _ rfl).1,(h2 7 _ rfl).1,(h2 8 _ rfl).1,(h2 9 _ rfl).1,(h2 10 _ rfl).1,(h2 11 _ rfl).1,(h2 12 _ rfl).1,(h2 13 _ rfl).1,(h2 14 _ rfl).1⟩
theorem zxM {E:Env} (x:Config):R E (qN x) (zrm x):=by
 unfold qN zrm
 simp only [R,RL]
 refine ⟨[.int .i64 (x.Node),.int .u64 (x.Quota),.int .u64 (x.Largest),.int .u64 (x.Window),.int .u64 (x.Low),.int .i64 (x.Retry),.int .i64 (x.RetryMax),.int .i64 (x.Bypass),.int .i64 (x.Weights.getD 0 0),.int .i64 (x.Weights.getD 1 0),.int .i64 (x.Weights.getD 2 0),.int .i64 (x.RateN),.int .i64 (x.RateD),.int .i64 (x.Burst),.int .i64 (x.Blocks),.int .i64 (x.Rate)],rfl,⟨_,_,rfl,rfl,_,_,rfl,rfl,_,_,rfl,rfl,_,_,rfl,rfl,_,_,rfl,rfl,_,_,rfl,rfl,_,_,rfl,rfl,_,_,rfl,rfl,_,_,rfl,rfl,_,_,rfl,rfl,_,_,rfl,rfl,_,_,rfl,rfl,_,_,rfl,rfl,_,_,rfl,rfl,_,_,rfl,rfl,_,_,rfl,rfl,rfl⟩,?_⟩
 intro y hy
 simp only [List.mem_cons,List.not_mem_nil,or_false] at hy
 rcases hy with rfl | rfl | rfl | rfl | rfl | rfl | rfl | rfl | rfl | rfl | rfl | rfl | rfl | rfl | rfl | rfl <;> rfl
theorem zxN {E:Env} (x:Command) (hx:x.Bundle.Data.length <= maxLen):R E (qe x) (zrn x):=by
 unfold qe zrn
 simp only [R,RL]
 refine ⟨[.int .i64 (x.Kind),.int .i64 (x.Node),.int .i64 (x.Other),.int .i64 (x.N),.int .i64 (x.At),.int .i64 (x.By),.int .i64 (x.Bundle.ID.Node),.int .u64 (x.Bundle.ID.Seq),.int .i64 (x.Bundle.ID.Off),.int .i64 (x.Bundle.Dest),.int .i64 (x.Bundle.Prio),.int .i64 (x.Bundle.Born),.int .i64 (x.Bundle.Life),.int .i64 (x.Bundle.Total),.string ⟨x.Bundle.Data.toArray⟩],rfl,⟨_,_,rfl,rfl,_,_,rfl,rfl,_,_,rfl,rfl,_,_,rfl,rfl,_,_,rfl,rfl,_,_,rfl,rfl,_,_,rfl,rfl,_,_,rfl,rfl,_,_,rfl,rfl,_,_,rfl,rfl,_,_,rfl,rfl,_,_,rfl,rfl,_,_,rfl,rfl,_,_,rfl,rfl,_,_,rfl,⟨rfl,hx⟩,rfl⟩,?_⟩
 intro y hy
 simp only [List.mem_cons,List.not_mem_nil,or_false] at hy
 rcases hy with rfl | rfl | rfl | rfl | rfl | rfl | rfl | rfl | rfl | rfl | rfl | rfl | rfl | rfl | rfl <;> rfl
def zxO (c:Config):Option (List UInt8 × Int):=(yC c).bind fun r=>qy [r]
def zt2 (c:Command):Option (List UInt8 × Int):=(ZL c).bind fun r=>qy [r]
def qj (s:Script):Option (List UInt8 × Int) :=
 if s.Configs.length <= 1000000/\s.Commands.length <= 1000000 then (zX s).bind fun f=>if f.Err = 0 then (Yg s.Plan).bind fun pl=>txK zxO (zcW pl fun a=>txK zt2 zfu s.Commands a) s.Configs [] else some ([],f.Err) else none
theorem zk9 {α:Type} {f:α->Option (List UInt8 × Int)} {K:List UInt8->Option (List UInt8 × Int)} {B:Nat} (hB:1000000000 <= B) (hK:∀ a s,a.length <= B->K a = some s->s.1.length <= B):∀ (l:List α) (a:List UInt8) (s:List UInt8 × Int),a.length <= B->txK f K l a = some s->s.1.length <= B
 | [],a,s,ha,h=>hK a s ha h
 | x :: xs,a,s,ha,h=>by
  rw [txK] at h
  obtain ⟨p,_,h⟩:=bind_some h
  split at h
  case isFalse=>cases h
  split at h
  ·rename_i q _
   exact zk9 hB hK xs _ s (by rw [List.length_append]; omega) h
  ·cases h; simp
theorem qj.fn:FnT Tryz.prog 9 [.d .Script] [.str,.i64] qj:=by
 intro (s:Script) r h
 unfold qj at h
 split at h
 case isFalse=>cases h
 rename_i hlen
 obtain ⟨f,hc,h⟩:=bind_some h
 refine zaI fun w pr lam cargs hl hargs=>?_
 have hargs0:RL ⟨w,pr,fun _=>none⟩ [qO s] cargs.toList:=RL.noLoc _ _ (by simp only [V.noLocL,zdW,Bool.and_true]) (show RL ⟨w,pr,lam⟩ [qO s] cargs.toList from hargs)
 have hargs':=hargs0
 unfold qO at hargs'
 simp only [RL,R] at hargs'
 obtain ⟨y,ys,e,⟨xs,rfl,⟨v1,t1,rfl,⟨b1,c1,rfl,hle1,_,hr1⟩,v2,t2,rfl,⟨b2,c2,rfl,hle2,hm2,hr2⟩,v3,t3,rfl,⟨b3,c3,rfl,hle3,_,hr3⟩,rfl⟩,_⟩,rfl⟩:=hargs'
 simp only [List.length_map] at e hr1 hr2 hr3 hle2 hm2
 have hca:cargs = #[.agg #[.slice b1 s.Configs.length c1,.slice b2 s.Plan.length c2,.slice b3 s.Commands.length c3]]:=by rw [<- Array.toList_inj]; simpa using e
 subst hca
 have hcv:∀ W,Below w.heap.size w W->Calls Tryz.prog 7 #[.agg #[.slice b1 s.Configs.length c1,.slice b2 s.Plan.length c2,.slice b3 s.Commands.length c3]] W fun e W'=>e = .returned (.agg #[.int .i64 f.Err,.int .i64 f.At])/\Below W.heap.size W W':=fun W hb=>by
  have hle:Env.Le ⟨w,pr,fun _=>none⟩ ⟨W,pr,fun _=>none⟩:=⟨fun _ _ h=>h,fun _ _ h=>h,fun b o hp=>hb.cell (p:=⟨b,o,none⟩) (hl.lt b o hp)⟩
  refine (zbT zX.fn (Qs hl hb) (x:=s) hc (args:=#[.agg #[.slice b1 s.Configs.length c1,.slice b2 s.Plan.length c2,.slice b3 s.Commands.length c3]]) (RL.mono hle _ _ hargs0)).mono ?_
  rintro e W' ⟨v,pr',rfl,hr,_,hb'⟩
  change R _ (.agg [.int .i64 f.Err,.int .i64 f.At]) v at hr
  simp only [R,RL] at hr
  obtain ⟨xs,rfl,⟨y,ys,rfl,rfl,y2,ys2,rfl,rfl,rfl⟩,_⟩:=hr
  exact ⟨rfl,hb'⟩
 have res:∀ (s:List UInt8 × Int),s.1.length <= 1000000000->∀ E,R E (zik [.str,.i64] s) (.tuple #[.string ⟨s.1.toArray⟩,.int .i64 s.2]):=fun s hs E=>by
  show R E (.tup [.str s.1,.int .i64 s.2]) _
  simp only [R,RL]
  exact ⟨_,rfl,_,_,rfl,⟨rfl,by unfold maxLen; omega⟩,_,_,rfl,rfl,rfl⟩
 split at h
 case isFalse he =>
  cases h
  refine (zhA w b1 b2 b3 _ _ _ c1 c2 c3 f.Err f.At he hcv).mono ?_
  rintro e W' ⟨rfl,hb⟩
  exact ⟨_,rfl,res ([],f.Err) (by simp),hb⟩
 case isTrue he =>
  rw [he] at hcv
  obtain ⟨pl,hpl,h⟩:=bind_some h
  have hP:∀ W,Below w.heap.size w W->Calls Tryz.prog 31 #[.slice b2 s.Plan.length c2] W fun e W'=>e = .returned (.tuple #[.string ⟨pl.1.toArray⟩,.int .i64 pl.2])/\Below W.heap.size W W':=fun W hb=>by
   have hle:Env.Le ⟨w,pr,fun _=>none⟩ ⟨W,pr,fun _=>none⟩:=⟨fun _ _ h=>h,fun _ _ h=>h,fun b o hp=>hb.cell (p:=⟨b,o,none⟩) (hl.lt b o hp)⟩
   have hpa:R ⟨w,pr,fun _=>none⟩ (.list (s.Plan.map Zj)) (.slice b2 s.Plan.length c2):=by
    simp only [R,List.length_map]
    exact ⟨b2,c2,rfl,hle2,hm2,hr2⟩
   refine (zbT Yg.fn (Qs hl hb) (x:=s.Plan) hpl (args:=#[.slice b2 s.Plan.length c2]) (RL.mono hle _ _ (show RL ⟨w,pr,fun _=>none⟩ [.list (s.Plan.map Zj)] [.slice b2 s.Plan.length c2] by simp only [RL]; exact ⟨_,_,rfl,hpa,rfl⟩))).mono ?_
   rintro e W' ⟨v,pr',rfl,hr,_,hb'⟩
   change R _ (.tup [.str pl.1,.int .i64 pl.2]) v at hr
   simp only [R,RL] at hr
   obtain ⟨xs,rfl,y,ys,rfl,⟨rfl,_⟩,y2,ys2,rfl,rfl,rfl⟩:=hr
   exact ⟨rfl,hb'⟩
  have hCf:s.Configs ≠ []->∃ b o,b1 = some ⟨b,o,none⟩/\ztY w b o s.Configs:=fun hne=>by
   rcases hr1 with ⟨h0,_⟩ | ⟨b,o,k,rfl,hrr⟩
   ·exact absurd (by simpa using h0) hne
   ·exact ⟨b,o,rfl,zt0 hl (List.length_pos_iff.2 hne) hrr⟩
  have hCm:s.Commands ≠ []->∃ b o,b3 = some ⟨b,o,none⟩/\ztZ w b o s.Commands:=fun hne=>by
   rcases hr3 with ⟨h0,_⟩ | ⟨b,o,k,rfl,hrr⟩
   ·exact absurd (by simpa using h0) hne
   ·exact ⟨b,o,rfl,zt1 hl (List.length_pos_iff.2 hne) hrr⟩
  have hdata:∀ x ∈ s.Commands,x.Bundle.Data.length <= maxLen:=fun x hx=>by
   rcases hr3 with ⟨h0,_⟩ | ⟨b,o,k,rfl,hrr⟩
   ·have:s.Commands = []:=by simpa using h0
    rw [this] at hx; cases hx
   ·obtain ⟨i,hi⟩:=List.mem_iff_getElem?.1 hx
    obtain ⟨y,q1,_⟩:=hrr.get i (qe x) (by rw [List.getElem?_map,hi]; rfl)
    unfold qe at q1
    simp only [R,RL] at q1
    obtain ⟨xs,rfl,⟨y0,ys0,rfl,rfl,y1,ys1,rfl,rfl,y2,ys2,rfl,rfl,y3,ys3,rfl,rfl,y4,ys4,rfl,rfl,y5,ys5,rfl,rfl,y6,ys6,rfl,rfl,y7,ys7,rfl,rfl,y8,ys8,rfl,rfl,y9,ys9,rfl,rfl,y10,ys10,rfl,rfl,y11,ys11,rfl,rfl,y12,ys12,rfl,rfl,y13,ys13,rfl,rfl,y14,ys14,rfl,⟨rfl,hstr⟩,rfl⟩,_⟩:=q1
    exact hstr
  refine (ziK w b1 b2 b3 s.Plan.length c1 c2 c3 s.Configs s.Commands hlen.1 hlen.2 hCf hCm f.At hcv pl hP zxO zt2 (fun x hx p hp W hb=>?_) (fun x hx p hp W hb=>?_) r h).mono ?_
  ·obtain ⟨q,h1,h2⟩:=bind_some hp
   refine (zbT yC.fn (Qs hl hb) (x:=x) h1 (args:=#[zrm x]) (show RL _ [qN x] [zrm x] by simp only [RL]; exact ⟨_,_,rfl,zxM x,rfl⟩)).mono ?_
   rintro e W' ⟨v,pr',rfl,hr,hl',hb'⟩
   exact ⟨v,rfl,hb',fun N w1 acc hti hle=>zhz hl' hti hr h2 hle⟩
  ·obtain ⟨q,h1,h2⟩:=bind_some hp
   refine (zbT ZL.fn (Qs hl hb) (x:=x) h1 (args:=#[zrn x]) (show RL _ [qe x] [zrn x] by simp only [RL]; exact ⟨_,_,rfl,zxN x (hdata x hx),rfl⟩)).mono ?_
   rintro e W' ⟨v,pr',rfl,hr,hl',hb'⟩
   exact ⟨v,rfl,hb',fun N w1 acc hti hle=>zhz hl' hti hr h2 hle⟩
  ·rintro e W' ⟨rfl,hb⟩
   refine ⟨_,rfl,res r ?_,hb⟩
   refine zk9 (Nat.le_refl _) (fun a q ha hq=>?_) _ _ _ (by simp) h
   unfold zcW at hq
   split at hq
   ·split at hq
    ·rename_i hle
     refine zk9 (Nat.le_refl _) (fun a q ha hq=>?_) _ _ _ (by rw [List.length_append]; exact hle) hq
     unfold zfu at hq
     split at hq <;> cases hq
     ·simp
     ·exact ha
    ·cases hq
   ·cases hq; simp
def qj.spec:XSpec Tryz.prog:=XSpec.t 9 [.d .Script] [.str,.i64] qj (by kernel_rfl) qj.fn
end Go.Proofs.YtgpccllhdcggdaaGreatDoor
