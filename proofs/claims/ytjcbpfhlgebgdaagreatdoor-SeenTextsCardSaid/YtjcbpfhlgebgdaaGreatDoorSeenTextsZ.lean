import Derived.Test.YtjcbpfhlgebgdaaGreatDoorRows
import Derived.Test.YtjcbpfhlgebgdaaGreatDoorCards
import Derived.Test.YtjcbpfhlgebgdaaGreatDoorTie
import Derived.Test.YtjcbpfhlgebgdaaGreatDoorPSe
import Derived.Test.YtjcbpfhlgebgdaaGreatDoorHLs
import Derived.Test.YtjcbpfhlgebgdaaGreatDoorXO
import Derived.ProofKit
import Derived.OpenShut
import Derived.LaidMore
import Derived.Lay
import Derived.SevenTiedAt
import Derived.Stop.Joined
import Derived.SizedLaws
import Derived.ChangeBears2
set_option linter.unusedSimpArgs false
set_option linter.unusedVariables false
namespace Go.Proofs.YtjcbpfhlgebgdaaGreatDoor
open Go.ChangeShapes Go.WideShapes Go.ChangeAt Go.RowKit Go.Eng Go.X
theorem zgk (W:World) (hL:laidMetH Tryz.prog Rows.seenTextsRow.laid W) (x0 x1:Value) (y0:List (Mrk)) (y1:List UInt8) (h0:Eng.R (E0 W) (YA y0) x0) (h1:Eng.R (E0 W) (zaU y1) x1) (f0:fit (YA y0)) (f1:fit (zaU y1)) :
  Calls Tryz.prog 4 #[x0,x1] W fun e w'=>e = .returned (.bool true)/\Below W.heap.size W w':=by
 have hF:Go.Eng.Fn Tryz.prog 4 [YA y0,zaU y1] [] (.bool true) []:=zJ.fn (y0,y1) true ((zkm y0 y1 f0))
 refine (hF W _ (fun _=>none) #[x0,x1] (zlE W hL rfl) (by simp only [RL]; exact ⟨x0,_,rfl,h0,⟨x1,_,rfl,h1,rfl⟩⟩) (fun i B h=>by simp at h) (fun i j b h=>by cases h) (fun _ _=>rfl)).mono fun e w' ⟨v,pr',he,hr,_,hleft⟩=>?_
 simp only [Eng.R] at hr
 exact ⟨by rw [he,hr],{ os:=hleft.os,tape:=hleft.tape,output:=hleft.output,size:=hleft.size,block:=fun k hk=>hleft.block k hk (by simp) }⟩
theorem own:ownKnob Tryz.prog.godebug = none:=by kernel_rfl
theorem Tryz.laidOutL:laidOutB Tryz.prog = true:=by kernel_rfl
set_option maxHeartbeats 1600000 in
set_option maxRecDepth 100000 in
theorem zd5 (os:Os) (started:os.Started) (H:Type) (enc:TypeId × Value->H) :
  ReturnsInHanded {} Tryz.checked os 4 .any (fun w args=>(Rows.seenTextsSpec.pre enc Tryz.prog Tryz.f4 Rows.seenTextsRow.domain false w args/\laidMetH Tryz.prog Rows.seenTextsRow.laid w)/\sizedMet enc Tryz.prog Tryz.f4 (OpenSpec.ofChange Rows.seenTextsSpec) false w args)
   (Rows.seenTextsSpec.post enc Tryz.prog Tryz.f4 false true false false):=by
 refine returnsInHanded_of_change_and (C:=Tryz.checked) (X:=fun w _=>laidMetH Tryz.prog Rows.seenTextsRow.laid w) (fun _ _ _ hh h=>h.of_heap hh) own started (by kernel_rfl) Tryz.func4
  (ChangeSpec.witness_shaped (enc:=enc) (C:=Tryz.checked) (os:=os) (X:=fun w _=>laidMetH Tryz.prog Rows.seenTextsRow.laid w) false (World.laidAll Tryz.prog os Rows.seenTextsRow.laid) #[.slice none 0 0,.string ⟨#[]⟩] 8 (World.laidAll_os _ _ _)
   (World.shaped_of_ZipB (by kernel_rfl) (by kernel_rfl)) (by kernel_rfl) (by kernel_rfl) (by kernel_rfl)
   (by rw [MakeChecks.laidMetH_plain _ _ _ (by kernel_rfl)]; exact laidMet_laidAll _ (by kernel_rfl) (by kernel_rfl))) ?_
 intro W base args ds gs before hval0 hW hc _ hL _
 have hval:∀ (j:Nat) t v,Tryz.f4.params[j]? = some t->args[j]? = some v->Value.okWide Tryz.prog W .any base t v:=hval0
 have hW':=hW
 obtain ⟨p,q,hA0,hV,rfl,_,_⟩:=hW
 have hA:DataW.TrodAll enc Tryz.prog W 0 (fun _=>true) true Tryz.f4.params.toList args.toList ds p:=hA0
 rw [Tryz.params4] at hA hval
 obtain ⟨v0,v1,d0,d1,p0,p1,rfl,rfl,rfl,t0,t1⟩:=trodAll_two hA
 obtain ⟨rfl,rfl⟩:=trodVars_none hV
 clear hA0 hval0
 simp only [List.append_nil] at hW'
 have hlt:∀ x ∈ (p0++p1),x.block < W.heap.size:=fun x hx=>hW'.lt x (by simpa using hx)
 have hargs0:∀ (W':World),Below W.heap.size W W'->DataW.Trod enc Tryz.prog W' 0 (fun b=>decide (b < W.heap.size)) true 35 v0 d0 p0 :=
  fun W' hn=>Below.trod Tryz.laidOutL (by kernel_rfl) (of_decide_eq_true (by kernel_rfl)) t0 hn fun x hx=>hlt x (by simp [hx])
 have hargs1:∀ (W':World),Below W.heap.size W W'->DataW.Trod enc Tryz.prog W' 0 (fun b=>decide (b < W.heap.size)) true 9 v1 d1 p1 :=
  fun W' hn=>Below.trod Tryz.laidOutL (by kernel_rfl) (of_decide_eq_true (by kernel_rfl)) t1 hn fun x hx=>hlt x (by simp [hx])
 obtain ⟨r0,hR0,hF0,hI0⟩:=zoD Tryz.underlying35 (show zif Tryz.prog 81 = some (true,[.int .i64,.int .u64,.int .i64,.int .i64]) by kernel_rfl) (hval 0 35 v0 rfl rfl) t0
 obtain ⟨y0,rfl⟩:=zqB (f:=qQ) (fun r ⟨vs,e,hl⟩=>by subst e; obtain ⟨_,_,rfl,⟨n0,rfl⟩,_,_,rfl,⟨n1,rfl⟩,_,_,rfl,⟨n2,rfl⟩,_,_,rfl,⟨n3,rfl⟩,rfl⟩:=hl; exact ⟨⟨⟨n0,n1,n2⟩,n3⟩,rfl⟩) r0 hI0
 obtain ⟨w1,hI1,hR1,hF1⟩:=zoC (E0 W) (show zif Tryz.prog 9 = some (false,[.str]) by kernel_rfl) (hval 1 9 v1 rfl rfl) t1
 obtain ⟨y1,e1⟩:∃ y,mk false w1 = zaU y:=by obtain ⟨_,_,rfl,⟨n0,rfl⟩,rfl⟩:=hI1; exact ⟨n0,rfl⟩
 rw [e1] at hR1 hF1
 refine (zgk W hL _ _ y0 y1 hR0 hR1 hF0 hF1).mono fun e W' ⟨he,hB⟩=>?_
 subst he
 exact ⟨_,rfl,_,_,_,[],p0++p1,[],hW',trodAll_mk1 (shut_bool Tryz.underlying4 true),trodAll_mk2 (hargs0 W' hB) (hargs1 W' hB),rfl,hB.frame _,fun h=>by cases h⟩
theorem zfa:Rows.SeenTextsSaid :=
 OpenClaim.holds_of_wide 4 Tryz.f4 rfl rfl rfl rfl rfl rfl rfl ⟨rfl,rfl,rfl,rfl,rfl⟩ rfl rfl rfl rfl rfl (by kernel_rfl) Tryz.func4 (by kernel_rfl)
  (of_decide_eq_true (by kernel_rfl)) (by unfold Func.isWrapper; first | (rw [if_pos (by decide +kernel)]; kernel_rfl) | (rw [if_neg (by decide +kernel)]; exact ⟨rfl,rfl⟩))
  (fun os started H enc _=>zd5 os started H enc)
theorem seenTexts_card_holds:Rows.SeenTextsCardSaid :=
 Claim7.holds_tied_plain_at .later [] [.data, .data, .data, .data, .pinned] true (true, "6cab105f9650f593eac6c17f0dda12ee0ebbed389b1009db6b0dc273e5dd36a9") true zfa (fun _ h => by cases h) (by kernel_rfl) (fun _ h => by cases h) seenTexts_row_tie rfl ⟨rfl, rfl⟩ (by kernel_rfl) rfl
  (fun f fn hf hfn=>by
   obtain rfl : f = 4 := Option.some.inj ((show Tryz.prog.funcNamed "packhorse/packhorselaw16.SeenTexts" = some 4 by kernel_rfl).symm.trans hf) |>.symm
   obtain rfl:fn = Tryz.f4:=(Option.some.inj (Tryz.func4.symm.trans hfn)).symm
   exact ⟨by kernel_rfl,fun j t ht=>by
    rw [Tryz.params4] at ht
    have hm:t ∈ [35,9]:=by simpa using Array.mem_of_getElem? ht
    have hall:([35,9].all fun u=>!Tryz.prog.wantsStandIn u) = true:=by kernel_rfl
    exact (show Tryz.prog.wantsStandIn t = false by simpa using List.all_eq_true.1 hall t hm)⟩)
  (by kernel_rfl)
#print axioms seenTexts_card_holds
end Go.Proofs.YtjcbpfhlgebgdaaGreatDoor
