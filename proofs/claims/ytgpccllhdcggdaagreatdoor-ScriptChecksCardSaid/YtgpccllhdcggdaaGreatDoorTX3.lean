import Derived.Test.YtgpccllhdcggdaaGreatDoorTX2
open List renaming getElem?_eq_getElem -> zys
set_option linter.unusedSimpArgs false
set_option linter.unusedVariables false
namespace Go.Proofs.YtgpccllhdcggdaaGreatDoor
open Go Go.Eng Go.RowKit Go.X Go.Shelf
noncomputable def txK {α:Type} (f:α->Option (List UInt8 × Int)) (K:List UInt8->Option (List UInt8 × Int)):List α->List UInt8->Option (List UInt8 × Int)
 | [],acc=>K acc
 | x :: xs,acc=>(f x).bind fun p=>if acc.length + p.1.length <= 1000000000 then (if p.2 = 0 then txK f K xs (acc++p.1) else some ([],p.2)) else none
noncomputable def zfu (b:List UInt8):Option (List UInt8 × Int):=if 20000 < b.length then some ([],4) else some (b,0)
noncomputable def zcW (p:List UInt8 × Int) (K:List UInt8->Option (List UInt8 × Int)) (a:List UInt8):Option (List UInt8 × Int):=if p.2 = 0 then (if a.length + p.1.length <= 1000000000 then K (a++p.1) else none) else some ([],p.2)
def zrm (x:Config):Value:=.agg #[.int .i64 (x.Node),.int .u64 (x.Quota),.int .u64 (x.Largest),.int .u64 (x.Window),.int .u64 (x.Low),.int .i64 (x.Retry),.int .i64 (x.RetryMax),.int .i64 (x.Bypass),.int .i64 (x.Weights.getD 0 0),.int .i64 (x.Weights.getD 1 0),.int .i64 (x.Weights.getD 2 0),.int .i64 (x.RateN),.int .i64 (x.RateD),.int .i64 (x.Burst),.int .i64 (x.Blocks),.int .i64 (x.Rate)]
def zvw (x:Config):Obj:=.cells #[.int .i64 (x.Node),.int .u64 (x.Quota),.int .u64 (x.Largest),.int .u64 (x.Window),.int .u64 (x.Low),.int .i64 (x.Retry),.int .i64 (x.RetryMax),.int .i64 (x.Bypass),.int .i64 (x.Weights.getD 0 0),.int .i64 (x.Weights.getD 1 0),.int .i64 (x.Weights.getD 2 0),.int .i64 (x.RateN),.int .i64 (x.RateD),.int .i64 (x.Burst),.int .i64 (x.Blocks),.int .i64 (x.Rate)] 58 (0,0)
def zrn (x:Command):Value:=.agg #[.int .i64 (x.Kind),.int .i64 (x.Node),.int .i64 (x.Other),.int .i64 (x.N),.int .i64 (x.At),.int .i64 (x.By),.int .i64 (x.Bundle.ID.Node),.int .u64 (x.Bundle.ID.Seq),.int .i64 (x.Bundle.ID.Off),.int .i64 (x.Bundle.Dest),.int .i64 (x.Bundle.Prio),.int .i64 (x.Bundle.Born),.int .i64 (x.Bundle.Life),.int .i64 (x.Bundle.Total),.string ⟨x.Bundle.Data.toArray⟩]
def zvx (x:Command):Obj:=.cells #[.int .i64 (x.Kind),.int .i64 (x.Node),.int .i64 (x.Other),.int .i64 (x.N),.int .i64 (x.At),.int .i64 (x.By),.int .i64 (x.Bundle.ID.Node),.int .u64 (x.Bundle.ID.Seq),.int .i64 (x.Bundle.ID.Off),.int .i64 (x.Bundle.Dest),.int .i64 (x.Bundle.Prio),.int .i64 (x.Bundle.Born),.int .i64 (x.Bundle.Life),.int .i64 (x.Bundle.Total),.string ⟨x.Bundle.Data.toArray⟩] 48 (0,0)
structure ztY (w:World) (b o:Nat) (l:List Config):Prop where
 lt:b < w.heap.size
 c:∀ (i:Nat) (x:Config),l[i]? = some x->∀ W:World,Below w.heap.size w W->W.cell? ⟨b,o + i * 16,none⟩ = some (.int .i64 (x.Node))/\W.cell? ⟨b,o + i * 16 + 1,none⟩ = some (.int .u64 (x.Quota))/\W.cell? ⟨b,o + i * 16 + 2,none⟩ = some (.int .u64 (x.Largest))/\W.cell? ⟨b,o + i * 16 + 3,none⟩ = some (.int .u64 (x.Window))/\W.cell? ⟨b,o + i * 16 + 4,none⟩ = some (.int .u64 (x.Low))/\W.cell? ⟨b,o + i * 16 + 5,none⟩ = some (.int .i64 (x.Retry))/\W.cell? ⟨b,o + i * 16 + 6,none⟩ = some (.int .i64 (x.RetryMax))/\W.cell? ⟨b,o + i * 16 + 7,none⟩ = some (.int .i64 (x.Bypass))/\W.cell? ⟨b,o + i * 16 + 8,none⟩ = some (.int .i64 (x.Weights.getD 0 0))/\W.cell? ⟨b,o + i * 16 + 9,none⟩ = some (.int .i64 (x.Weights.getD 1 0))/\W.cell? ⟨b,o + i * 16 + 10,none⟩ = some (.int .i64 (x.Weights.getD 2 0))/\W.cell? ⟨b,o + i * 16 + 11,none⟩ = some (.int .i64 (x.RateN))/\W.cell? ⟨b,o + i * 16 + 12,none⟩ = some (.int .i64 (x.RateD))/\W.cell? ⟨b,o + i * 16 + 13,none⟩ = some (.int .i64 (x.Burst))/\W.cell? ⟨b,o + i * 16 + 14,none⟩ = some (.int .i64 (x.Blocks))/\W.cell? ⟨b,o + i * 16 + 15,none⟩ = some (.int .i64 (x.Rate))
structure ztZ (w:World) (b o:Nat) (l:List Command):Prop where
 lt:b < w.heap.size
 c:∀ (i:Nat) (x:Command),l[i]? = some x->∀ W:World,Below w.heap.size w W->W.cell? ⟨b,o + i * 15,none⟩ = some (.int .i64 (x.Kind))/\W.cell? ⟨b,o + i * 15 + 1,none⟩ = some (.int .i64 (x.Node))/\W.cell? ⟨b,o + i * 15 + 2,none⟩ = some (.int .i64 (x.Other))/\W.cell? ⟨b,o + i * 15 + 3,none⟩ = some (.int .i64 (x.N))/\W.cell? ⟨b,o + i * 15 + 4,none⟩ = some (.int .i64 (x.At))/\W.cell? ⟨b,o + i * 15 + 5,none⟩ = some (.int .i64 (x.By))/\W.cell? ⟨b,o + i * 15 + 6,none⟩ = some (.int .i64 (x.Bundle.ID.Node))/\W.cell? ⟨b,o + i * 15 + 7,none⟩ = some (.int .u64 (x.Bundle.ID.Seq))/\W.cell? ⟨b,o + i * 15 + 8,none⟩ = some (.int .i64 (x.Bundle.ID.Off))/\W.cell? ⟨b,o + i * 15 + 9,none⟩ = some (.int .i64 (x.Bundle.Dest))/\W.cell? ⟨b,o + i * 15 + 10,none⟩ = some (.int .i64 (x.Bundle.Prio))/\W.cell? ⟨b,o + i * 15 + 11,none⟩ = some (.int .i64 (x.Bundle.Born))/\W.cell? ⟨b,o + i * 15 + 12,none⟩ = some (.int .i64 (x.Bundle.Life))/\W.cell? ⟨b,o + i * 15 + 13,none⟩ = some (.int .i64 (x.Bundle.Total))/\W.cell? ⟨b,o + i * 15 + 14,none⟩ = some (.string ⟨x.Bundle.Data.toArray⟩)
def zeM (b1 b2 b3:Option Addr) (n1 n2 n3 c1 c2 c3:Nat):Obj:=.cells #[.slice b1 n1 c1,.slice b2 n2 c2,.slice b3 n3 c3] 26 (0,0)
theorem zk8 {W:World} {k:Nat} {b1 b2 b3:Option Addr} {n1 n2 n3 c1 c2 c3:Nat} (h:W.heap[k]? = some (zeM b1 b2 b3 n1 n2 n3 c1 c2 c3)):W.cell? ⟨k,0,none⟩ = some (.slice b1 n1 c1)/\W.cell? ⟨k,1,none⟩ = some (.slice b2 n2 c2)/\W.cell? ⟨k,2,none⟩ = some (.slice b3 n3 c3):=by
 unfold zeM at h
 simp [World.cell?,h]
def Wr (w:World) (f:FuncId) (v:Value) (p:List UInt8 × Int):Prop:=∀ W,Below w.heap.size w W->Calls Tryz.prog f #[v] W fun e W'=>∃ v,e = .returned v/\Below W.heap.size W W' /\
 ∀ N w1 acc,TI N w1 acc W'->acc.length + p.1.length <= 1000000000->Calls Tryz.prog 27 #[v,.pointer (some ⟨N,0,none⟩)] W' fun e W''=>e = .returned (.int .i64 p.2)/\TI N w1 (acc++p.1) W''
theorem zeN {N:Nat} {w w2 W:World} {acc:List UInt8} (hw2:Below w.heap.size w w2) (hN:w.heap.size <= N) (h:TI N w2 acc W):Below w.heap.size w W:=hw2.trans (h.bel.mono hN)
theorem zxL {i:Nat} {n:Nat} (h:i < n):(i:Int) < (n:Int):=by omega
theorem eqI {k n:Nat} (h:k <= n) (h2:¬ k < n):k = n:=by omega
theorem wrI {k n:Nat} (h:k < n) (hn:n <= 1000000):wrap64 ((k:Int) + 1) = k + 1:=IntWalk.wrap64_in _ (by omega)
theorem ziJ (w:World):Lib.IsBuilderF 65 5 w.heap.size w.heap.size (Lib.byteCells []) (w.alloc (.cells #[.pointer none,.slice none 0 0] 65)):=Lib.IsBuilderF.of (Lib.fresh_isBuilder _ _ _)
set_option maxRecDepth 20000 in
set_option maxHeartbeats 16000000 in
theorem ziK (w:World) (b1 b2 b3:Option Addr) (n2 c1 c2 c3:Nat) (l:List Config) (m:List Command) (hl:l.length <= 1000000) (hm:m.length <= 1000000)
  (hL:l ≠ []->∃ b o,b1 = some ⟨b,o,none⟩/\ztY w b o l) (hM:m ≠ []->∃ b o,b3 = some ⟨b,o,none⟩/\ztZ w b o m)
  (at':Int) (hV:∀ W,Below w.heap.size w W->Calls Tryz.prog 7 #[.agg #[.slice b1 l.length c1,.slice b2 n2 c2,.slice b3 m.length c3]] W fun e W'=>e = .returned (.agg #[.int .i64 0,.int .i64 at'])/\Below W.heap.size W W')
  (pl:List UInt8 × Int) (hP:∀ W,Below w.heap.size w W->Calls Tryz.prog 31 #[.slice b2 n2 c2] W fun e W'=>e = .returned (.tuple #[.string ⟨pl.1.toArray⟩,.int .i64 pl.2])/\Below W.heap.size W W')
  (rc:Config->Option (List UInt8 × Int)) (rm:Command->Option (List UInt8 × Int))
  (hC:∀ x ∈ l,∀ p,rc x = some p->Wr w 30 (zrm x) p) (hD:∀ x ∈ m,∀ p,rm x = some p->Wr w 32 (zrn x) p)
  (s:List UInt8 × Int) (hs:txK rc (zcW pl fun a=>txK rm zfu m a) l [] = some s) :
  Calls Tryz.prog 9 #[.agg #[.slice b1 l.length c1,.slice b2 n2 c2,.slice b3 m.length c3]] w fun e W'=>e = .returned (.tuple #[.string ⟨s.1.toArray⟩,.int .i64 s.2])/\Below w.heap.size w W':=by
 have mixed:Tryz.prog.follows .mixedOrders = true:=by kernel_rfl
 obtain ⟨K1,hK1⟩:∃ K1,K1 = (zcW pl fun a=>txK rm zfu m a):=⟨_,rfl⟩
 rw [<- hK1] at hs
 have hb0:Below w.heap.size w (w.alloc (zeM b1 b2 b3 l.length n2 m.length c1 c2 c3)):=(Below.refl _ _).alloc (Nat.le_refl _) _
 have hv:=hV _ hb0
 have hst:∀ w1,Below (w.alloc (zeM b1 b2 b3 l.length n2 m.length c1 c2 c3)).heap.size (w.alloc (zeM b1 b2 b3 l.length n2 m.length c1 c2 c3)) w1->Below w.heap.size w w1/\w1.heap[w.heap.size]? = some (zeM b1 b2 b3 l.length n2 m.length c1 c2 c3)/\w.heap.size < w1.heap.size:=fun w1 hb=>by
  have hsz:=Qt w (zeM b1 b2 b3 l.length n2 m.length c1 c2 c3)
  have:=hb.size
  exact ⟨hb0.trans (hb.mono hb0.size),(hb.block _ (by omega)).trans (zdd w _),by omega⟩
 unfold zeM at hv hst
 clear hV hb0
 go_enter Tryz.func9,Tryz.ntmps9
 go_wp2_with (go_at_call 7; refine hv.mono ?_; rintro e w1 ⟨rfl,x1⟩; obtain ⟨x2,x3,x4⟩:=hst _ x1; obtain ⟨s0,s1,s2⟩:=zk8 x3; clear hv hst x1)
 obtain ⟨w2,hw20⟩:∃ w2,w1.alloc (.cells #[.int .i64 0,.int .i64 at'] 32) = w2:=⟨_,rfl⟩
 obtain ⟨N,hN0⟩:∃ N,w1.heap.size + 1 = N:=⟨_,rfl⟩
 have hN1:w2.heap.size = N:=by rw [<- hw20,Qt,hN0]
 have hw2:Below w.heap.size w w2:=by rw [<- hw20]; exact x2.alloc x2.size _
 have hN:w.heap.size < N:=by omega
 have hS2:w2.heap[w.heap.size]? = some (zeM b1 b2 b3 l.length n2 m.length c1 c2 c3):=by rw [<- hw20]; exact (((Below.refl _ w1).alloc (Nat.le_refl _) _).block _ x4).trans x3
 simp only [hw20,hN0]
 clear s0 s1 s2 x2 x3 x4 hN0
 have hN':w.heap.size <= N:=Nat.le_of_lt hN
 go_loopw [26] (fun v26 wr=>∃ (i:Nat) (acc:List UInt8),v26 = .int .i64 i/\i <= l.length/\txK rc K1 (l.drop i) acc = some s/\TI N w2 acc wr)
  (fun v26 wr=>((l.length:Int) - intOf v26).toNat)
 case atStart =>
  refine ⟨0,[],rfl,Nat.zero_le _,by simpa using hs,⟨by rw [<- hN1]; exact ziJ _,(Below.refl _ _).alloc (by omega) _,by simp [hN1]⟩⟩
 case round =>
  obtain ⟨i,acc,rfl,hi,hq,hti⟩:=hrel
  have hww:Below w.heap.size w wr:=zeN hw2 hN' hti
  by_cases hil:i < l.length
  ·clear hs
   obtain ⟨x,hx⟩:∃ x,l[i]? = some x:=⟨l[i],zys hil⟩
   have hdr:l.drop i = x :: l.drop (i + 1):=by
    rw [List.drop_eq_getElem_cons hil]
    congr 1
    rw [zys hil] at hx
    exact Option.some.inj hx
   rw [hdr,txK] at hq
   obtain ⟨p,hp,hq1⟩:=bind_some hq
   clear hq
   split at hq1
   case isFalse=>cases hq1
   rename_i hlen
   have hxl:x ∈ l:=List.mem_of_getElem? hx
   obtain ⟨b,o,rfl,ho⟩:=hL (fun h=>by rw [h] at hil; simp at hil)
   obtain ⟨c0,c1,c2,c3,c4,c5,c6,c7,c8,c9,c10,c11,c12,c13,c14,c15⟩:=ho.c i x hx wr hww
   have bl:(i:Int) < l.length:=zxL hil
   have hwa:Below w.heap.size w (wr.alloc (zvw x)):=hww.alloc hww.size _
   have hcK:=hC x hxl p hp (wr.alloc (zvw x)) hwa
   have hti1:=hti.alloc (zvw x)
   obtain ⟨p1,p2⟩:=p
   dsimp only at hcK hq1 hlen
   unfold zrm at hcK
   unfold zvw at hcK hti1
   have wr1:wrap64 ((i:Int) + 1) = i + 1:=wrI hil hl
   clear hL hM hC hD hP ho hdr hxl hp hx hwa
   by_cases hp2:p2 = 0
   ·subst hp2
    rw [if_pos rfl] at hq1
    go_wp2_with (first
     | (go_at_call 30; refine hcK.mono ?_; rintro e W1 ⟨v,rfl,y1,hcl⟩; have hti2:=hti1.below y1; have hcl2:=hcl _ _ _ hti2 hlen; clear hcl hti1)
     | (go_at_call 27; refine hcl2.mono ?_; rintro e W2 ⟨rfl,hti3⟩))
    go_roundw
    case rel=>exact ⟨i + 1,acc++p1,by simp,hil,hq1,hti3⟩
    case measure=>first | exact zai hil | (rw [wr1]; exact zai hil)
   ·rw [if_neg hp2] at hq1
    cases hq1
    have hcb:(p2 != 0) = true:=bne_iff_ne.2 hp2
    go_wp2_with (first
     | (go_at_call 30; refine hcK.mono ?_; rintro e W1 ⟨v,rfl,y1,hcl⟩; have hti2:=hti1.below y1; have hcl2:=hcl _ _ _ hti2 hlen; clear hcl hti1)
     | (go_at_call 27; refine hcl2.mono ?_; rintro e W2 ⟨rfl,hti3⟩))
    go_ret2
    exact ⟨rfl,zeN hw2 hN' hti3⟩
  ·obtain rfl:i = l.length:=eqI hi hil
   rw [List.drop_length,txK] at hq
   subst hK1
   obtain ⟨s0,s1,s2⟩:=zk8 ((hti.bel.block _ hN).trans hS2)
   have hp0:=hP wr hww
   obtain ⟨p1,p2⟩:=pl
   unfold zcW at hq
   dsimp only at hq hp0
   clear hs hP hC hL hil hi s0
   by_cases hp2:p2 = 0
   ·subst hp2
    rw [if_pos rfl] at hq
    split at hq
    case isFalse=>cases hq
    rename_i hlen
    have hbw:acc.length + p1.length <= 140737488355328:=by omega
    obtain ⟨s1',hs1'⟩:∃ A,acc++p1 = A:=⟨_,rfl⟩
    go_wp2_with (first
     | (go_at_call 31; refine hp0.mono ?_; rintro e W1 ⟨rfl,y1⟩; have hti2:=hti.below y1)
     | (go_at_call 29; refine Calls.mono (Any.Builder_WriteString_k Tryz.wsI zhB N N _ _ W1 hti2.isb (by rw [Lib.byteCells_length]; exact hbw) (ztW hti2)) ?_; rintro e W3 ⟨rfl,v1,v2,v3⟩; have hti3:=ztX hti2 v1 v2; rw [hs1'] at hti3; obtain ⟨q0,q1,q2⟩:=zk8 ((hti3.bel.block _ hN).trans hS2); clear v1 v2 v3 y1))
    rw [hs1'] at hq
    clear hti hti2 hp0 hww hs1' hbw hlen
    go_loopw [52] (fun v52 wr=>∃ (i:Nat) (acc:List UInt8),v52 = .int .i64 i/\i <= m.length/\txK rm zfu (m.drop i) acc = some s/\TI N w2 acc wr)
     (fun v52 wr=>((m.length:Int) - intOf v52).toNat)
    case atStart=>exact ⟨0,s1',rfl,Nat.zero_le _,by simpa using hq,hti3⟩
    case round =>
     clear hti3 hq
     obtain ⟨i,acc,rfl,hi,hq,hti⟩:=hrel
     have hww:Below w.heap.size w wr:=zeN hw2 hN' hti
     by_cases hil:i < m.length
     ·skip
      obtain ⟨x,hx⟩:∃ x,m[i]? = some x:=⟨m[i],zys hil⟩
      have hdr:m.drop i = x :: m.drop (i + 1):=by
       rw [List.drop_eq_getElem_cons hil]
       congr 1
       rw [zys hil] at hx
       exact Option.some.inj hx
      rw [hdr,txK] at hq
      obtain ⟨p,hp,hq1⟩:=bind_some hq
      clear hq
      split at hq1
      case isFalse=>cases hq1
      rename_i hlen
      have hxl:x ∈ m:=List.mem_of_getElem? hx
      obtain ⟨b,o,rfl,ho⟩:=hM (fun h=>by rw [h] at hil; simp at hil)
      obtain ⟨c0,c1,c2,c3,c4,c5,c6,c7,c8,c9,c10,c11,c12,c13,c14⟩:=ho.c i x hx wr hww
      have bl:(i:Int) < m.length:=zxL hil
      have hwa:Below w.heap.size w (wr.alloc (zvx x)):=hww.alloc hww.size _
      have hcK:=hD x hxl p hp (wr.alloc (zvx x)) hwa
      have hti1:=hti.alloc (zvx x)
      obtain ⟨p1,p2⟩:=p
      dsimp only at hcK hq1 hlen
      unfold zrn at hcK
      unfold zvx at hcK hti1
      have wr1:wrap64 ((i:Int) + 1) = i + 1:=wrI hil hm
      clear hM hD ho hdr hxl hp hx hwa
      by_cases hp2:p2 = 0
      ·subst hp2
       rw [if_pos rfl] at hq1
       go_wp2_with (first
        | (go_at_call 32; refine hcK.mono ?_; rintro e W1 ⟨v,rfl,y1,hcl⟩; have hti2:=hti1.below y1; have hcl2:=hcl _ _ _ hti2 hlen; clear hcl hti1)
        | (go_at_call 27; refine hcl2.mono ?_; rintro e W2 ⟨rfl,hti3⟩))
       go_roundw
       case rel=>exact ⟨i + 1,acc++p1,by simp,hil,hq1,hti3⟩
       case measure=>first | exact zai hil | (rw [wr1]; exact zai hil)
      ·rw [if_neg hp2] at hq1
       cases hq1
       have hcb:(p2 != 0) = true:=bne_iff_ne.2 hp2
       go_wp2_with (first
        | (go_at_call 32; refine hcK.mono ?_; rintro e W1 ⟨v,rfl,y1,hcl⟩; have hti2:=hti1.below y1; have hcl2:=hcl _ _ _ hti2 hlen; clear hcl hti1)
        | (go_at_call 27; refine hcl2.mono ?_; rintro e W2 ⟨rfl,hti3⟩))
       go_ret2
       exact ⟨rfl,zeN hw2 hN' hti3⟩
     ·obtain rfl:i = m.length:=eqI hi hil
      rw [List.drop_length,txK,zfu] at hq
      clear hM hD hil hi
      obtain ⟨n,hn⟩:∃ n,acc.length = n:=⟨_,rfl⟩
      rw [hn] at hq
      by_cases h20:20000 < n
      ·rw [if_pos h20] at hq
       cases hq
       have h20':(20000:Int) < (n:Int):=by omega
       go_wp2_with (go_at_call 33; refine (Any.Builder_Len_f Tryz.lnI N N _ _ hti.isb).mono ?_; rintro e W4 ⟨rfl,rfl⟩; rw [Lib.byteCells_length,hn])
       go_ret2
       exact ⟨rfl,hww⟩
      ·rw [if_neg h20] at hq
       cases hq
       have h20':¬ (20000:Int) < (n:Int):=by omega
       go_wp2_with (first
        | (go_at_call 33; refine (Any.Builder_Len_f Tryz.lnI N N _ _ hti.isb).mono ?_; rintro e W4 ⟨rfl,rfl⟩; rw [Lib.byteCells_length,hn])
        | (go_at_call 34; refine (Any.Builder_String_any_k Tryz.bsI zm3 N N acc _ hti.isb (ztW hti)).mono ?_; rintro e W3 ⟨rfl,v1,v2,v3⟩))
       go_ret2
       exact ⟨rfl,zeN hw2 hN' ⟨hti.isb,hti.bel,hti.sz⟩ |>.trans (v2.mono hN')⟩
   ·rw [if_neg hp2] at hq
    cases hq
    have hcb:(p2 != 0) = true:=bne_iff_ne.2 hp2
    go_wp2_with (first
     | (go_at_call 31; refine hp0.mono ?_; rintro e W1 ⟨rfl,y1⟩; have hti2:=hti.below y1))
    go_ret2
    exact ⟨rfl,zeN hw2 hN' hti2⟩
end Go.Proofs.YtgpccllhdcggdaaGreatDoor
