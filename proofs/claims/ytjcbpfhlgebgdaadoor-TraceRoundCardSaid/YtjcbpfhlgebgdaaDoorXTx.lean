import Derived.Test.YtjcbpfhlgebgdaaDoorTT
import Derived.Test.YtjcbpfhlgebgdaaDoorXGTr
set_option linter.unusedSimpArgs false
set_option linter.unusedVariables false
namespace Go.Proofs.YtjcbpfhlgebgdaaDoor
open Go Go.Eng Go.RowKit Go.X Go.Seq Go.Shelf
set_option maxRecDepth 20000 in
set_option maxHeartbeats 8000000 in
theorem text_bad (w:World) (sv:Value) (c:Int) (hc:c ≠ 0)
  (hV:Calls Tryd.prog 73 #[sv] w fun e W'=>e = .returned (.int .i64 c)∧Below w.heap.size w W') :
  Calls Tryd.prog 21 #[sv] w fun e W'=>e = .returned (.tuple #[.string ⟨#[]⟩,.int .i64 c])∧Below w.heap.size w W':=by
 have hcb:(c != 0) = true:=bne_iff_ne.2 hc
 go_enter Tryd.func21,Tryd.ntmps21
 go_wp2_with (go_at_call 73; refine hV.mono ?_; rintro e w1 ⟨rfl,x1⟩)
 go_ret2
 exact ⟨rfl,x1⟩
set_option maxRecDepth 20000 in
set_option maxHeartbeats 8000000 in
theorem text_nil (w:World) (base:Option Addr) (cap:Nat)
  (hV:Calls Tryd.prog 73 #[.slice base 0 cap] w fun e W'=>e = .returned (.int .i64 0)∧Below w.heap.size w W') :
  Calls Tryd.prog 21 #[.slice base 0 cap] w fun e W'=>e = .returned (.tuple #[.string ⟨#[]⟩,.int .i64 0])∧Below w.heap.size w W':=by
 have mixed:Tryd.prog.follows .mixedOrders = true:=by kernel_rfl
 go_enter Tryd.func21,Tryd.ntmps21
 go_wp2_with (go_at_call 73; refine hV.mono ?_; rintro e w1 ⟨rfl,x1⟩)
 obtain ⟨N,hN0⟩:∃ N,w1.heap.size = N:=⟨_,rfl⟩
 simp only [hN0]
 have hx1:w.heap.size ≤ w1.heap.size:=x1.size
 go_loopw [17] (fun v17 wr=>v17 = .int .i64 0∧TI N w1 [] wr) (fun v17 wr=>0)
 case atStart =>
  have hsz:(w1.alloc (.cells #[.pointer none,.slice none 0 0] 115)).heap.size = N + 1:=by simp [hN0]
  exact ⟨rfl,by rw [← hN0]; exact Lib.IsBuilderF.of (Lib.fresh_isBuilder _ _ _),(Below.refl _ _).alloc (by omega) _,by omega⟩
 case round =>
  obtain ⟨rfl,hti⟩:=hrel
  have hww:Below w.heap.size w wr:=⟨hti.bel.os.trans x1.os,hti.bel.tape.trans x1.tape,hti.bel.output.trans x1.output,Nat.le_trans x1.size hti.bel.size,fun k hk=>(hti.bel.block k (by have:=x1.size; omega)).trans (x1.block k hk)⟩
  clear hV x1
  go_wp2_with (first
   | (go_at_call 77; refine (Any.Builder_Len_f Tryd.lnI N N _ _ hti.isb).mono ?_; rintro e W2 ⟨rfl,rfl⟩; rw [Lib.byteCells_length])
   | (go_at_call 78; refine (Any.Builder_String_any_k Tryd.bsI sb_extra N N [] _ hti.isb (ti_le hti)).mono ?_; rintro e W3 ⟨rfl,v1,v2,v3⟩))
  go_ret2
  exact ⟨rfl,below_N hww v2 (by rw [← hN0]; exact hx1)⟩
noncomputable def trace_Text (l:List Outc):Option (List UInt8 × Int) :=
 if l.length ≤ 100000 then (trace_valid l).bind fun e=>if e = 0 then (txF trace_row l []).bind fun s=>some (if 20000 < s.length then ([],4) else (s,0)) else some ([],e) else none
theorem row_call {W:World} {pr:Nat→Nat→Prop} (hl:HL W pr) {x:Outc} {ws:List Word} (h:trace_row x = some ws) (hne:ws ≠ []) :
  Calls Tryd.prog 74 #[oAgg x] W fun e W'=>∃ v,e = .returned v∧Below W.heap.size W W'∧RowAt W.heap.size v ws W':=by
 refine (trace_row.fo x ws h W pr #[oAgg x] hl (by
  show RL _ [.agg [.int .i64 x.Tick,.int .i64 x.Node,.int .i64 x.Kind,.int .i64 x.ID.Node,.int .u64 x.ID.Seq,.int .i64 x.ID.Off,.int .i64 x.Other]] [oAgg x]
  unfold oAgg
  simp only [RL,R]
  refine ⟨_,_,rfl,⟨[.int .i64 x.Tick,.int .i64 x.Node,.int .i64 x.Kind,.int .i64 x.ID.Node,.int .u64 x.ID.Seq,.int .i64 x.ID.Off,.int .i64 x.Other],rfl,⟨_,_,rfl,rfl,_,_,rfl,rfl,_,_,rfl,rfl,_,_,rfl,rfl,_,_,rfl,rfl,_,_,rfl,rfl,_,_,rfl,rfl,rfl⟩,?_⟩,rfl⟩
  intro y hy; simp at hy; rcases hy with rfl | rfl | rfl | rfl | rfl | rfl | rfl <;> rfl)).mono ?_
 rintro e W' ⟨v,pr',rfl,hr,hk,hown⟩
 refine ⟨v,rfl,⟨hk.os,hk.tape,hk.output,hk.size,fun k h=>hk.block k h (fun i e=>by cases e)⟩,?_⟩
 simp only [R] at hr
 obtain ⟨base,cap,rfl,hle,hm,hrow⟩:=hr
 rw [List.length_map] at hle hown ⊢
 have hpos:0 < ws.length:=List.length_pos_iff.2 hne
 rcases hrow with ⟨h0,_⟩ | ⟨b,o,k,rfl,hrr⟩
 ·exact absurd (by simpa using h0) hne
 obtain ⟨hMb,n,cap2,cur,sz,hv,hhp,_,_,_⟩:=hown b (by
  show (if ((0:Nat) = 0∧0 < cap) ∨ ((0:Nat) = 1∧ws.length < cap) then some b else none) = some b
  rw [if_pos (.inl ⟨rfl,by omega⟩)])
 cases hv
 have h3:k = 3:=by
  obtain ⟨y,q1,q2,_⟩:=hrr.get 0 (enc .Word ws[0]) (by simp [hpos])
  have q1':R ⟨W',pr',fun _=>none⟩ (.agg [.int .i64 ws[0].At,.str ws[0].Key,.str ws[0].Text]) y:=q1
  simp only [R] at q1'
  obtain ⟨xs,rfl,hxs,_⟩:=q1'
  have:=hxs.length
  simp [Value.cells] at q2 this
  omega
 subst h3
 refine ⟨b,cap,cur,rfl,hMb,hhp,fun i x hx=>?_⟩
 obtain ⟨y,q1,q2,q3⟩:=hrr.get i (enc .Word x) (by simp [hx])
 have q1':R ⟨W',pr',fun _=>none⟩ (.agg [.int .i64 x.At,.str x.Key,.str x.Text]) y:=q1
 simp only [R,RL] at q1'
 obtain ⟨xs,rfl,⟨y0,ys0,rfl,rfl,y1,ys1,rfl,⟨rfl,_⟩,y2,ys2,rfl,⟨rfl,_⟩,rfl⟩,_⟩:=q1'
 have key:∀ j z,([.int .i64 x.At,.string ⟨x.Key.toArray⟩,.string ⟨x.Text.toArray⟩]:List Value)[j]? = some z→cur[i * 3 + j]? = some z:=fun j z hz=>by
  have:=(q3 j z (by simpa [Value.cells] using hz)).1.1
  change W'.cell? ⟨b,0 + i * 3 + j,none⟩ = some z at this
  simp only [World.cell?,hhp] at this
  simpa using this
 exact ⟨key 0 _ rfl,key 1 _ rfl,key 2 _ rfl⟩
theorem trace_Text.fn:FnT Tryd.prog 21 [.d .l_Outc] [.str,.i64] trace_Text:=by
 intro (l:List Outc) r h
 refine fn_below fun w pr lam cargs hl hargs=>?_
 unfold trace_Text at h
 split at h
 case isFalse=>cases h
 rename_i hlen
 obtain ⟨c,hc,h⟩:=bind_some h
 have hargs':RL ⟨w,pr,lam⟩ [.list (l.map (enc .Outc))] cargs.toList:=hargs
 have hcv:Calls Tryd.prog 73 cargs w fun e W'=>e = .returned (.int .i64 c)∧Below w.heap.size w W':=by
  refine (fnt_call trace_valid.fn hl (x:=l) hc (args:=cargs) (by
   have:RL ⟨w,pr,fun _=>none⟩ [.list (l.map (enc .Outc))] cargs.toList:=RL.noLoc _ _ (by simp only [V.noLocL,V.noLoc,Bool.and_true]; exact noLocL_map' (enc_noLoc .Outc) l) hargs'
   exact this)).mono ?_
  rintro e W' ⟨v,pr',rfl,hr,hb⟩
  change R _ (.int .i64 c) v at hr
  simp only [R] at hr
  exact ⟨by rw [hr],hb⟩
 simp only [RL,R] at hargs'
 obtain ⟨y,ys,e,⟨base,cap,rfl,hle,hm,hrow⟩,rfl⟩:=hargs'
 have hca:cargs = #[.slice base (l.map (enc .Outc)).length cap]:=by rw [← Array.toList_inj]; exact e
 subst hca
 rw [List.length_map] at hle hcv ⊢
 have res:∀ (s:List UInt8) (n:Int),s.length ≤ 20000→∀ E,R E (resVt [.str,.i64] (s,n)) (.tuple #[.string ⟨s.toArray⟩,.int .i64 n]):=fun s n hs E=>by
  show R E (.tup [.str s,.int .i64 n]) _
  simp only [R,RL]
  exact ⟨_,rfl,_,_,rfl,⟨rfl,by unfold maxLen; omega⟩,_,_,rfl,rfl,rfl⟩
 split at h
 case isFalse hc0 =>
  cases h
  refine (text_bad w _ c hc0 hcv).mono ?_
  rintro e W' ⟨rfl,hb⟩
  exact ⟨_,rfl,res [] c (by simp),hb⟩
 case isTrue hc0 =>
  subst hc0
  obtain ⟨s,hs,h⟩:=bind_some h
  by_cases hl0:l = []
  ·subst hl0
   simp only [txF,Option.some.injEq] at hs
   subst hs
   cases h
   refine (text_nil w base cap hcv).mono ?_
   rintro e W' ⟨rfl,hb⟩
   exact ⟨_,rfl,res [] 0 (by simp),hb⟩
  ·rcases hrow with ⟨h0,_⟩ | ⟨b,o,k,rfl,hrr⟩
   ·exact absurd (by simpa using h0) hl0
   have hpos:0 < l.length:=List.length_pos_iff.2 hl0
   have hk:k = 7:=by
    obtain ⟨y,q1,q2,_⟩:=hrr.get 0 (enc .Outc l[0]) (by simp [hpos])
    have q1':R ⟨w,pr,lam⟩ (.agg [.int .i64 l[0].Tick,.int .i64 l[0].Node,.int .i64 l[0].Kind,.int .i64 l[0].ID.Node,.int .u64 l[0].ID.Seq,.int .i64 l[0].ID.Off,.int .i64 l[0].Other]) y:=q1
    simp only [R] at q1'
    obtain ⟨xs,rfl,hxs,_⟩:=q1'
    have:=hxs.length
    simp [Value.cells] at q2 this
    omega
   subst hk
   have hcells:∀ (i:Nat) (x:Outc),l[i]? = some x→∀ j z,([.int .i64 x.Tick,.int .i64 x.Node,.int .i64 x.Kind,.int .i64 x.ID.Node,.int .u64 x.ID.Seq,.int .i64 x.ID.Off,.int .i64 x.Other]:List Value)[j]? = some z→w.cell? ⟨b,o + i * 7 + j,none⟩ = some z∧pr b (o + i * 7 + j):=fun i x hx j z hz=>by
    obtain ⟨y,q1,q2,q3⟩:=hrr.get i (enc .Outc x) (by simp [hx])
    have q1':R ⟨w,pr,lam⟩ (.agg [.int .i64 x.Tick,.int .i64 x.Node,.int .i64 x.Kind,.int .i64 x.ID.Node,.int .u64 x.ID.Seq,.int .i64 x.ID.Off,.int .i64 x.Other]) y:=q1
    simp only [R,RL] at q1'
    obtain ⟨xs,rfl,⟨y0,ys0,rfl,rfl,y1,ys1,rfl,rfl,y2,ys2,rfl,rfl,y3,ys3,rfl,rfl,y4,ys4,rfl,rfl,y5,ys5,rfl,rfl,y6,ys6,rfl,rfl,rfl⟩,_⟩:=q1'
    exact (q3 j z (by simpa [Value.cells] using hz)).1
   have hbk:b < w.heap.size:=by
    have:=(hcells 0 l[0] (List.getElem?_eq_getElem hpos) 0 _ rfl).2
    exact hl.lt _ _ this
   have ho:OutAt w b o l:=⟨hbk,fun i x hx=>⟨(hcells i x hx 0 _ rfl).1,(hcells i x hx 1 _ rfl).1,(hcells i x hx 2 _ rfl).1,(hcells i x hx 3 _ rfl).1,(hcells i x hx 4 _ rfl).1,(hcells i x hx 5 _ rfl).1,(hcells i x hx 6 _ rfl).1⟩⟩
   refine (text_in w b o cap l hlen ho trace_row hcv (fun x _ ws hw hne W hb=>row_call (hl_bel hl hb) hw hne) s hs).mono ?_
   rintro e W' ⟨rfl,hb⟩
   by_cases h20:20000 < s.length
   ·rw [if_pos h20] at h ⊢
    cases h
    exact ⟨_,rfl,res [] 4 (by simp),hb⟩
   ·rw [if_neg h20] at h ⊢
    cases h
    exact ⟨_,rfl,res s 0 (by omega),hb⟩
noncomputable def trace_Text.spec:XSpec Tryd.prog:=XSpec.t 21 [.d .l_Outc] [.str,.i64] trace_Text (by kernel_rfl) trace_Text.fn
end Go.Proofs.YtjcbpfhlgebgdaaDoor
