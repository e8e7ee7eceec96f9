import Derived.Test.YtgpccllhdcggdaaGreatDoorP37t
import Derived.Test.YtgpccllhdcggdaaGreatDoorHLo
import Derived.Test.YtgpccllhdcggdaaGreatDoorHW4
import Derived.SizedLaws
namespace Go.Proofs.YtgpccllhdcggdaaGreatDoor
open Go.ChangeShapes Go.WideShapes Go.ChangeAt Go.RowKit Go.Eng Go.X
theorem zdS (W:World) (hL:laidMetH Tryz.prog Rows.scriptChecksRow.laid W) (x0 x1 x2:Value) (y0:Script) (y1:Int) (y2:Int) (h0:Eng.R (E0 W) (qO y0) x0) (h1:Eng.R (E0 W) (Yp y1) x1) (h2:Eng.R (E0 W) (Yp y2) x2) (f0:fit (qO y0)) (f1:fit (Yp y1)) (f2:fit (Yp y2)) :
  Calls Tryz.prog 3 #[x0,x1,x2] W fun e w'=>e = .returned (.bool true)/\Below W.heap.size W w':=by
 have hF:Go.Eng.Fn Tryz.prog 3 [qO y0,Yp y1,Yp y2] [] (.bool true) []:=zP.fn (y0,y1,y2) true ((zg0 y0 y1 y2 f0))
 refine (hF W _ (fun _=>none) #[x0,x1,x2] (zob W hL rfl) (by simp only [RL]; exact ⟨x0,_,rfl,h0,⟨x1,_,rfl,h1,⟨x2,_,rfl,h2,rfl⟩⟩⟩) (fun i B h=>by simp at h) (fun i j b h=>by cases h) (fun _ _=>rfl)).mono fun e w' ⟨v,pr',he,hr,_,hleft⟩=>?_
 simp only [Eng.R] at hr
 exact ⟨by rw [he,hr],{ os:=hleft.os,tape:=hleft.tape,output:=hleft.output,size:=hleft.size,block:=fun k hk=>hleft.block k hk (by simp) }⟩
theorem own:ownKnob Tryz.prog.godebug = none:=by kernel_rfl
theorem Tryz.laidOutL:laidOutB Tryz.prog = true:=by kernel_rfl
set_option maxHeartbeats 1600000 in
set_option maxRecDepth 100000 in
theorem zcx (os:Os) (started:os.Started) (H:Type) (enc:TypeId × Value->H) :
  ReturnsInHanded {} Tryz.checked os 3 .any (fun w args=>(Rows.scriptChecksSpec.pre enc Tryz.prog Tryz.f3 Rows.scriptChecksRow.domain false w args/\laidMetH Tryz.prog Rows.scriptChecksRow.laid w)/\sizedMet enc Tryz.prog Tryz.f3 (OpenSpec.ofChange Rows.scriptChecksSpec) false w args)
   (Rows.scriptChecksSpec.post enc Tryz.prog Tryz.f3 false true false false):=by
 refine returnsInHanded_of_change_and (C:=Tryz.checked) (X:=fun w _=>laidMetH Tryz.prog Rows.scriptChecksRow.laid w) (fun _ _ _ hh h=>h.of_heap hh) own started (by kernel_rfl) Tryz.func3
  (ChangeSpec.witness_shaped (enc:=enc) (C:=Tryz.checked) (os:=os) (X:=fun w _=>laidMetH Tryz.prog Rows.scriptChecksRow.laid w) false (ziy os) #[.agg #[.slice none 0 0,.slice none 0 0,.slice none 0 0],.int .i64 0,.int .i64 0] 8 (zu0 os)
   (zmd os _) (zu1 os) (zsl os enc) (zu2 os enc) (zsk os _)) ?_
 intro W base args ds gs before hval0 hW hc _ hL _
 have hval:∀ (j:Nat) t v,Tryz.f3.params[j]? = some t->args[j]? = some v->Value.okWide Tryz.prog W .any base t v:=hval0
 have hW':=hW
 obtain ⟨p,q,hA0,hV,rfl,_,_⟩:=hW
 have hA:DataW.TrodAll enc Tryz.prog W 0 (fun _=>true) true Tryz.f3.params.toList args.toList ds p:=hA0
 rw [Tryz.params3] at hA hval
 obtain ⟨v0,v1,v2,d0,d1,d2,p0,p1,p2,rfl,rfl,rfl,t0,t1,t2⟩:=trodAll_three hA
 obtain ⟨rfl,rfl⟩:=trodVars_none hV
 clear hA0 hval0
 simp only [List.append_nil] at hW'
 have hlt:∀ x ∈ (p0++p1++p2),x.block < W.heap.size:=fun x hx=>hW'.lt x (by simpa using hx)
 have hargs0:∀ (W':World),Below W.heap.size W W'->DataW.Trod enc Tryz.prog W' 0 (fun b=>decide (b < W.heap.size)) true 26 v0 d0 p0 :=
  fun W' hn=>Below.trod Tryz.laidOutL (by kernel_rfl) (of_decide_eq_true (by kernel_rfl)) t0 hn fun x hx=>hlt x (by simp [hx])
 have hargs1:∀ (W':World),Below W.heap.size W W'->DataW.Trod enc Tryz.prog W' 0 (fun b=>decide (b < W.heap.size)) true 3 v1 d1 p1 :=
  fun W' hn=>Below.trod Tryz.laidOutL (by kernel_rfl) (of_decide_eq_true (by kernel_rfl)) t1 hn fun x hx=>hlt x (by simp [hx])
 have hargs2:∀ (W':World),Below W.heap.size W W'->DataW.Trod enc Tryz.prog W' 0 (fun b=>decide (b < W.heap.size)) true 3 v2 d2 p2 :=
  fun W' hn=>Below.trod Tryz.laidOutL (by kernel_rfl) (of_decide_eq_true (by kernel_rfl)) t2 hn fun x hx=>hlt x (by simp [hx])
 obtain ⟨r00,r01,r02,hR0,hF0,hI00,hI01,hI02⟩:=zlP Tryz.underlying26 ⟨rfl,rfl,rfl,rfl,rfl,rfl,by kernel_rfl,by kernel_rfl,by kernel_rfl,by kernel_rfl⟩ (show Tryz.prog.underlying 22 = some (.slice 58) by kernel_rfl) (show Tryz.prog.underlying 23 = some (.slice 83) by kernel_rfl) (show Tryz.prog.underlying 24 = some (.slice 48) by kernel_rfl) (show zbw Tryz.prog 58 = some (true,[.int .i64,.int .u64,.int .u64,.int .u64,.int .u64,.int .i64,.int .i64,.int .i64,.int .i64,.int .i64,.int .i64,.int .i64,.int .i64,.int .i64,.int .i64,.int .i64]) by kernel_rfl) (show zbw Tryz.prog 83 = some (true,[.int .i64,.int .i64,.int .i64,.int .i64,.int .i64,.int .i64]) by kernel_rfl) (show zbw Tryz.prog 48 = some (true,[.int .i64,.int .i64,.int .i64,.int .i64,.int .i64,.int .i64,.int .i64,.int .u64,.int .i64,.int .i64,.int .i64,.int .i64,.int .i64,.int .i64,.str]) by kernel_rfl) (hval 0 26 v0 rfl rfl) t0
 obtain ⟨y00,rfl⟩:=zlO (f:=qN) (fun r ⟨vs,e,hl⟩=>by subst e; obtain ⟨_,_,rfl,⟨n0,rfl⟩,_,_,rfl,⟨n1,rfl⟩,_,_,rfl,⟨n2,rfl⟩,_,_,rfl,⟨n3,rfl⟩,_,_,rfl,⟨n4,rfl⟩,_,_,rfl,⟨n5,rfl⟩,_,_,rfl,⟨n6,rfl⟩,_,_,rfl,⟨n7,rfl⟩,_,_,rfl,⟨n8,rfl⟩,_,_,rfl,⟨n9,rfl⟩,_,_,rfl,⟨n10,rfl⟩,_,_,rfl,⟨n11,rfl⟩,_,_,rfl,⟨n12,rfl⟩,_,_,rfl,⟨n13,rfl⟩,_,_,rfl,⟨n14,rfl⟩,_,_,rfl,⟨n15,rfl⟩,rfl⟩:=hl; exact ⟨⟨n0,n1,n2,n3,n4,n5,n6,n7,[n8,n9,n10],n11,n12,n13,n14,n15⟩,rfl⟩) r00 hI00
 obtain ⟨y01,rfl⟩:=zlO (f:=Zj) (fun r ⟨vs,e,hl⟩=>by subst e; obtain ⟨_,_,rfl,⟨n0,rfl⟩,_,_,rfl,⟨n1,rfl⟩,_,_,rfl,⟨n2,rfl⟩,_,_,rfl,⟨n3,rfl⟩,_,_,rfl,⟨n4,rfl⟩,_,_,rfl,⟨n5,rfl⟩,rfl⟩:=hl; exact ⟨⟨n0,n1,n2,n3,n4,n5⟩,rfl⟩) r01 hI01
 obtain ⟨y02,rfl⟩:=zlO (f:=qe) (fun r ⟨vs,e,hl⟩=>by subst e; obtain ⟨_,_,rfl,⟨n0,rfl⟩,_,_,rfl,⟨n1,rfl⟩,_,_,rfl,⟨n2,rfl⟩,_,_,rfl,⟨n3,rfl⟩,_,_,rfl,⟨n4,rfl⟩,_,_,rfl,⟨n5,rfl⟩,_,_,rfl,⟨n6,rfl⟩,_,_,rfl,⟨n7,rfl⟩,_,_,rfl,⟨n8,rfl⟩,_,_,rfl,⟨n9,rfl⟩,_,_,rfl,⟨n10,rfl⟩,_,_,rfl,⟨n11,rfl⟩,_,_,rfl,⟨n12,rfl⟩,_,_,rfl,⟨n13,rfl⟩,_,_,rfl,⟨n14,rfl⟩,rfl⟩:=hl; exact ⟨⟨n0,n1,n2,n3,n4,n5,⟨⟨n6,n7,n8⟩,n9,n10,n11,n12,n13,n14⟩⟩,rfl⟩) r02 hI02
 obtain ⟨w1,hI1,hR1,hF1⟩:=zjW (E0 W) (show zbw Tryz.prog 3 = some (false,[.int .i64]) by kernel_rfl) (hval 1 3 v1 rfl rfl) t1
 obtain ⟨y1,e1⟩:∃ y,mk false w1 = Yp y:=by obtain ⟨_,_,rfl,⟨n0,rfl⟩,rfl⟩:=hI1; exact ⟨n0,rfl⟩
 rw [e1] at hR1 hF1
 obtain ⟨w2,hI2,hR2,hF2⟩:=zjW (E0 W) (show zbw Tryz.prog 3 = some (false,[.int .i64]) by kernel_rfl) (hval 2 3 v2 rfl rfl) t2
 obtain ⟨y2,e2⟩:∃ y,mk false w2 = Yp y:=by obtain ⟨_,_,rfl,⟨n0,rfl⟩,rfl⟩:=hI2; exact ⟨n0,rfl⟩
 rw [e2] at hR2 hF2
 refine (zdS W hL _ _ _ ⟨y00,y01,y02⟩ y1 y2 hR0 hR1 hR2 hF0 hF1 hF2).mono fun e W' ⟨he,hB⟩=>?_
 subst he
 exact ⟨_,rfl,_,_,_,[],p0++(p1++p2),[],hW',trodAll_mk1 (shut_bool Tryz.underlying4 true),trodAll_mk3 (hargs0 W' hB) (hargs1 W' hB) (hargs2 W' hB),rfl,hB.frame _,fun h=>by cases h⟩
end Go.Proofs.YtgpccllhdcggdaaGreatDoor
