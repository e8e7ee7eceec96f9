import Derived.Test.YtjcbpfhlgebgdaaDoorR10
import Derived.ArgAppend
noncomputable section
namespace Go.Run
open Go.RowKit
def bytesT (P:Program) (t:TypeId):Option Nat:=(P.info? t).map (·.bytes)
def srcT (P:Program) (t:TypeId):Bool:=match P.underlying t with
 | some (.slice _)=>true
 | some .string=>true
 | _=>false
def srcA (H:AH) (sz:Nat) (x:Value):Option (Nat × List Value) :=
 match x with
 | .slice none 0 0=>some (0,[])
 | .slice (some ⟨_,_,some 1⟩) 0 0=>some (0,[])
 | .slice (some ⟨b,o,none⟩) n _=>match cellsA H b o (n * sz) with
  | some vs=>some (n,vs)
  | none=>none
 | .string s=>cond (Nat.beq sz 1) (some (s.size,s.data.toList.map fun b=>Value.int .u8 (b.toNat:Int))) none
 | _=>none
def lenOK:Value→Bool
 | .slice none 0 0=>true
 | .slice (some ⟨_,_,some 1⟩) 0 0=>true
 | .slice (some ⟨_,_,none⟩) n cap=>Nat.ble n (cap / 2)
 | _=>false
def appendA (P:Program) (G:Nat) (H:AH) (t u:TypeId) (s x:Value):Option (Value × AH) :=
 match elemT P t with
 | some (none,e)=>match P.info? e with
  | none=>none
  | some i=>match srcA H i.size x with
   | none=>none
   | some (m,news)=>cond (srcT P u && Nat.beq news.length (m * i.size) && Nat.blt 0 i.size && news.all (·.oneCell') && (match i.zero with | some z=>Nat.beq z.cells.size i.size && z.cells.toList.all (·.oneCell') | none=>false))
    (cond (Nat.beq m 0) (cond (lenOK s) (some (s,H)) none)
     (match s with
     | .slice none 0 0=>cond (Nat.ble (m * i.bytes) 140737488355328 && Nat.ble m 4294967296 && small (m * i.size) && small H.nx)
       (some (.slice (some ⟨H.nx,0,none⟩) m (2 * m + 1),H.push (.cells (m * i.size) (T.setRow .nil 0 news) e (some i.size) (0,0)))) none
     | .slice (some ⟨b,o,none⟩) n cap =>
      match H.get b,cellsA H b o (n * i.size) with
      | some (.cells nn tr ty op fz),some olds =>
       let k:=cap / 2
       cond (Nat.ble (n + m) k)
              (cond (Nat.ble G b && small b && small nn && Nat.ble (o + n * i.size + news.length) nn && Nat.ble fz.2 (o + n * i.size)) (some (.slice (some ⟨b,o,none⟩) (n + m) cap,H.set b (.cells nn (tr.setRow (o + n * i.size) news) ty op fz))) none)
              (cond (Nat.ble ((n + m) * i.bytes) 140737488355328 && Nat.ble (n + m) 4294967296 && small ((n + m) * i.size) && small H.nx && small b && Nat.beq olds.length (n * i.size) && Nat.ble n k)
               (cond (isOpen cap)
                (cond (Nat.ble G b && Nat.beq ty e && (match op with | some sz=>Nat.beq sz i.size | none=>false) && Nat.beq nn (o + k * i.size) && (Nat.beq fz.1 0 || Nat.beq fz.1 1) && Nat.beq fz.2 0)
                    (some (.slice (some ⟨H.nx,0,none⟩) (n + m) (2 * (n + m) + 1),(H.set b .dead).push (.cells ((n + m) * i.size) (T.setRow .nil 0 (olds++news)) e (some i.size) fz))) none)
                (some (.slice (some ⟨H.nx,0,none⟩) (n + m) (2 * (n + m) + 1),H.push (.cells ((n + m) * i.size) (T.setRow .nil 0 (olds++news)) e (some i.size) (0,0)))))
               none)
      | _,_=>none
     | _=>none)) none
 | _=>none
section
variable {P:Program} {w0:World} {G:Nat} {L:Lam} {H:AH} {w:World}
theorem srcT_spec {u:TypeId} (h:srcT P u = true):P.underlying u = some .string ∨ ∃ e',P.underlying u = some (.slice e'):=by
 unfold srcT at h
 split at h
 ·rename_i e' hu; exact .inr ⟨e',hu⟩
 ·rename_i hu; exact .inl hu
 ·cases h
theorem srcA_spec (h:HRel w0 G L H w) {sz m:Nat} {v x:Value} {vs:List Value} (hr:srcA H sz v = some (m,vs)) (hx:VR L v x):∃ xs:List Value,LR L vs xs∧(∀ w',(Builtin.lenOf x).run P w' = .ok m w') ∧
  ∀ w',w'.heap = w.heap→(Builtin.firstCells sz m x).run P w' = .ok xs.toArray w':=by
 unfold srcA at hr
 split at hr
 ·cases hr; cases hx
  exact ⟨[],LR.nil L,fun w'=>by simp [Builtin.lenOf],fun w' _=>by simp [Builtin.firstCells]⟩
 ·cases hr; cases hx
  exact ⟨[],LR.nil L,fun w'=>by simp [Builtin.lenOf],fun w' _=>by simp [Builtin.firstCells,loadCells,loadCellsFrom]⟩
 ·rename_i b o n c
  split at hr
  ·rename_i vs' hc
   cases hr
   cases hx with
   | slice hp =>
    rename_i p
    obtain ⟨xs,q1,q2,q3⟩:=cellsA_spec h hc hp
    refine ⟨xs,q1,fun w'=>by simp [Builtin.lenOf],fun w' hw=>?_⟩
    have:=run_loadCells_list (P:=P) w' ⟨p.b,p.base + o,none⟩ xs (fun j v hv=>by
     rw [Addr.add_none]
     have:=(q3 j v hv).1
     simpa [World.cell?,hw] using this)
    rw [q2] at this
    simp [Builtin.firstCells,this]
  ·cases hr
 ·rename_i s
  cases hq:Nat.beq sz 1 with
  | false=>rw [hq] at hr; cases hr
  | true =>
   rw [hq] at hr; cases hr
   cases hx
   refine ⟨s.data.toList.map fun b=>Value.int .u8 (b.toNat:Int),LR.refl_flat (by simp [flatF]),fun w'=>by simp [Builtin.lenOf],fun w' _=>?_⟩
   have:s.extract 0 s.size = s:=by
    apply ByteArray.ext
    simp
   simp only [Builtin.firstCells,this]
   have e:(Array.map (fun b=>Value.int .u8 (b.toNat:Int)) s.data) = (s.data.toList.map fun b=>Value.int .u8 (b.toNat:Int)).toArray:=by
    apply Array.ext'; simp
   rw [e]; simp
 ·cases hr
theorem run_append_room {t u ty e:TypeId} {i:TypeInfo} (ht:P.underlying t = some (.slice e)) (hu:srcT P u = true) (hi:P.info? e = some i)
  {c o n cap m:Nat} {xv:Value} {news:List Value} {w':World}
  (hxl:(Builtin.lenOf xv).run P w = .ok m w) (hxf:(Builtin.firstCells i.size m xv).run P w = .ok news.toArray w) (hroom:n + m ≤ cap)
  (hst:(storeCells ⟨c,o + n * i.size,none⟩ news 0).run P w = .ok () w') :
  (Builtin.append_ #[t,u] ty #[.slice (some ⟨c,o,none⟩) n cap,xv]).run P w = .ok (.slice (some ⟨c,o,none⟩) (n + m) cap) w':=by
 rcases srcT_spec hu with hd | ⟨e2,hd⟩ <;> simp [Builtin.append_,run_underlying ht,run_underlying hd,sizeOf,typeInfo,hi,hxl,hroom,hxf,Addr.add_none,hst]
theorem run_append_none {t u ty e:TypeId} {i:TypeInfo} (ht:P.underlying t = some (.slice e)) (hu:srcT P u = true) (hi:P.info? e = some i)
  {base:Option Addr} {sLen sCap:Nat} {xv:Value} {w:World}
  (hxl:(Builtin.lenOf xv).run P w = .ok 0 w) (hxf:(Builtin.firstCells i.size 0 xv).run P w = .ok #[] w) (hroom:sLen ≤ sCap) :
  (Builtin.append_ #[t,u] ty #[.slice base sLen sCap,xv]).run P w = .ok (.slice base sLen sCap) w:=by
 rcases srcT_spec hu with hd | ⟨e2,hd⟩ <;> cases base <;> simp [Builtin.append_,run_underlying ht,run_underlying hd,sizeOf,typeInfo,hi,hxl,hroom,hxf,storeCells]
theorem run_append_new {t u ty e:TypeId} {i:TypeInfo} {z:Value} (ht:P.underlying t = some (.slice e)) (hu:srcT P u = true) (hi:P.info? e = some i) (hz:i.zero = some z)
  {base:Option Addr} {sLen sCap m:Nat} {xv:Value} {olds news:List Value} {w:World}
  (hxl:(Builtin.lenOf xv).run P w = .ok m w) (hxf:(Builtin.firstCells i.size m xv).run P w.drew = .ok news.toArray w.drew)
  (hof:(Builtin.firstCells i.size sLen (.slice base sLen sCap)).run P w.drew = .ok olds.toArray w.drew)
  (hg:sCap < sLen + m) (h63:((sLen + m:Nat):Int) ≤ 9223372036854775807) (hfit:Builtin.nextslicecap (sLen + m) sCap * i.bytes ≤ 281474976710656) :
  (Builtin.append_ #[t,u] ty #[.slice base sLen sCap,xv]).run P w =
   .ok (.slice (some ⟨w.heap.size,0,none⟩) (sLen + m) (grownCap w (sLen + m) sCap e))
    (w.drew.alloc (.cells (olds.toArray++news.toArray++Builtin.zeroCells z.cells (grownCap w (sLen + m) sCap e - (sLen + m))) e)):=by
 have hn:¬ (sLen + m ≤ sCap):=by omega
 have h63':¬ (9223372036854775807 < ((sLen:Int) + (m:Int))):=by omega
 have h48':¬ (281474976710656 < Builtin.nextslicecap (sLen + m) sCap * i.bytes):=by omega
 rcases srcT_spec hu with hd | ⟨e2,hd⟩ <;> simp [Builtin.append_,run_underlying ht,run_underlying hd,sizeOf,typeInfo,zeroValue,hi,hz,hxl,hn,h63',h48',Question.forced,hxf,hof,newRow,grownCap]
 all_goals
  congr 2
  apply Array.ext'
  simp [List.append_assoc]
theorem grow_laid {n m sz cap:Nat} {e:TypeId} {z:Value} {olds news xo xn:List Value} (hr:LR L (olds++news) (xo++xn)) (hl:(olds++news).length = (n + m) * sz) (hone:(olds++news).all (·.oneCell') = true) (hsm:small ((n + m) * sz) = true)
  (hz:z.cells.size = sz) {fz:Nat × Nat} (hfz:fz = (0,0) ∨ fz = (1,0)) (_need:n + m ≤ 4294967296) :
  Laid L w (w.drew.alloc (.cells (xo.toArray++xn.toArray++Builtin.zeroCells z.cells (grownCap w (n + m) cap e - (n + m))) e)) (.cells ((n + m) * sz) (T.setRow .nil 0 (olds++news)) e (some sz) fz)
   (fun b=>.slice (some ⟨b,0,none⟩) (n + m) (2 * (n + m) + 1)) (.slice (some ⟨w.heap.size,0,none⟩) (n + m) (grownCap w (n + m) cap e)):=by
 have hge:=grownCap_ge w (n + m) cap e
 have hxl:(xo++xn).length = (n + m) * sz:=by rw [← hr.1]; exact hl
 refine ⟨⟨by simp [World.alloc,World.drew,-World.alloc_eq,-World.drew_eq],fun k hk=>?_,rfl,rfl,rfl⟩,grownCap w (n + m) cap e - (n + m),fun L' b hl' hb=>⟨?_,?_⟩⟩
 ·simp only [World.alloc,World.drew]; rw [Array.getElem?_push_lt hk,Array.getElem?_eq_getElem hk]
 ·refine ⟨_,(0,0),by simp [World.alloc,World.drew,-World.alloc_eq,-World.drew_eq]; rfl,?_,?_,fun i hi=>?_⟩
  ·rcases hfz with rfl | rfl
   ·exact .inl ⟨rfl,rfl⟩
   ·exact .inr (.inl ⟨rfl,.inl (Nat.le_refl _)⟩)
  ·simp only [Array.size_append,List.size_toArray]
   have h2:(Builtin.zeroCells z.cells (grownCap w (n + m) cap e - (n + m))).size = (grownCap w (n + m) cap e - (n + m)) * sz:=by rw [size_zeroCells,hz]
   simp only [List.length_append] at hxl ⊢
   rw [h2]; omega
  ·have hi':i < (olds++news).length:=by omega
   obtain ⟨x,q1,q2⟩:=hr.get (List.getElem?_eq_getElem hi')
   refine ⟨_,x,?_,?_,q2.mono hl',?_⟩
   ·rw [T.get_setRow _ _ _ (by rw [hl]; simpa using hsm),if_pos ⟨Nat.zero_le _,by omega⟩]
    simp
   ·have:i < (xo++xn).length:=by rw [← hr.1]; exact hi'
    rw [Array.getElem?_append,if_pos (by simpa using this)]
    simpa using q1
   ·rw [q2.oneCell]; exact List.all_eq_true.1 hone _ (List.getElem_mem hi')
 ·have:=VR.slice (o:=0) (len:=n + m) (cap:=2 * (n + m) + 1) hb
  rwa [ccap_odd,show n + m + (grownCap w (n + m) cap e - (n + m)) = grownCap w (n + m) cap e by omega] at this
theorem HRel.laid (h:HRel w0 G L H w) {w':World} {ob:AObj} {mk:Nat→Value} {x:Value} (hl:Laid L w w' ob mk x) (hs:small H.nx = true):∃ L',Lam.ext H.nx L L'∧HRel w0 G L' (H.push ob) w'∧VR L' (mk H.nx) x:=by
 obtain ⟨hg,e,hk⟩:=hl
 have hn:=h.none_nx
 have h1:=h.push (o:=ob) hs
 have hb:(H.push ob).get H.nx = some ob:=by rw [AH.get_push hs,if_pos rfl]
 have hat:(L.upd H.nx ⟨w.heap.size,0,e⟩) H.nx = some ⟨w.heap.size,0,e⟩:=by unfold Lam.upd; rw [if_pos rfl]
 obtain ⟨k1,k2⟩:=hk (L.upd H.nx ⟨w.heap.size,0,e⟩) H.nx (Lam.le_upd hn) hat
 exact ⟨_,Lam.ext_upd hn,h1.real hb hn h.gnx (by show H.nx < H.nx + 1; omega) hg k1,k2⟩
theorem HRel.realAt (h:HRel w0 G L H w) {b:Nat} {o:AObj} {p:Pl} (hb:H.get b = some o) (hl:L b = none) (hG:G ≤ b) (hd:b < H.nx) (hp0:w0.heap.size ≤ p.b) (hp1:p.b < w.heap.size) (hfree:∀ c o' q,H.get c = some o'→o'.alive = true→L c = some q→q.b ≠ p.b)
  {w':World} (hw:Wrote p.b w w') (ho:ORel (L.upd b p) w' p o):HRel w0 G (L.upd b p) H w':=by
 have hle:L.le (L.upd b p):=Lam.le_upd hl
 have hcase:∀ c q,(L.upd b p) c = some q→(c = b∧q = p) ∨ (c ≠ b∧L c = some q):=fun c q hc=>by
  unfold Lam.upd at hc
  by_cases e:c = b
  ·rw [if_pos e] at hc; cases hc; exact .inl ⟨e,rfl⟩
  ·rw [if_neg e] at hc; exact .inr ⟨e,hc⟩
 refine ⟨fun c o' q h1 h2=>?_,fun c c' o1 o2 q q' h1 h2 a1 a2 h3 h4 he=>?_,fun c q hc=>?_,fun c q hg hc=>?_,fun c q hc=>?_,?_,fun g hg=>?_,h.gnx⟩
 ·rcases hcase c q h2 with ⟨rfl,rfl⟩ | ⟨_,hc⟩
  ·rw [hb] at h1; cases h1; exact ho
  ·cases hal:o'.alive with
   | false=>cases o' <;> first | trivial | simp [AObj.alive] at hal
   | true=>exact (h.obj c o' q h1 hc).mono hle (hw.block _ (hfree c o' q h1 hal hc))
 ·rcases hcase c q h3 with ⟨rfl,rfl⟩ | ⟨n1,hc⟩ <;> rcases hcase c' q' h4 with ⟨rfl,rfl⟩ | ⟨n2,hc'⟩
  ·rfl
  ·exact absurd he.symm (hfree c' o2 q' h2 a2 hc')
  ·exact absurd he (hfree c o1 q h1 a1 hc)
  ·exact h.inj c c' o1 o2 q q' h1 h2 a1 a2 hc hc' he
 ·rcases hcase c q hc with ⟨rfl,_⟩ | ⟨_,hc⟩
  ·exact hd
  ·exact h.dom c q hc
 ·rcases hcase c q hc with ⟨rfl,rfl⟩ | ⟨_,hc⟩
  ·exact hp0
  ·exact h.own c q hg hc
 ·rw [hw.size]
  rcases hcase c q hc with ⟨rfl,rfl⟩ | ⟨_,hc⟩
  ·exact hp1
  ·exact h.lt c q hc
 ·refine ⟨hw.os.trans h.keep.os,hw.tape.trans h.keep.tape,hw.output.trans h.keep.output,by rw [hw.size]; exact h.keep.size,fun k hk=>?_⟩
  rw [hw.block k (by omega)]
  exact h.keep.block k hk
 ·have:g ≠ b:=by omega
  unfold Lam.upd
  rw [if_neg this]
  exact h.glob g hg
theorem cc {α:Type} {c:Bool} {q:Option α} {r:α} (h:(bif c then q else none) = some r):c = true∧q = some r:=by
 cases c
 ·cases h
 ·exact ⟨rfl,h⟩
theorem ble {a b:Nat} (h:Nat.ble a b = true):a ≤ b:=Nat.le_of_ble_eq_true h
theorem all_app {xs ys:List Value} (h:xs.all (·.oneCell') = true) (k:ys.all (·.oneCell') = true):(xs++ys).all (·.oneCell') = true:=by
 rw [List.all_append,h,k]; rfl
theorem HRel.cellsOne (h:HRel w0 G L H w) {b off k:Nat} {vs:List Value} (hv:cellsA H b off k = some vs) {p:Pl} (hp:L b = some p):vs.all (·.oneCell') = true:=by
 obtain ⟨xs,q1,q2,q3⟩:=cellsA_spec h hv hp
 rw [List.all_eq_true]
 intro v hv
 obtain ⟨i,hi,rfl⟩:=List.getElem_of_mem hv
 obtain ⟨x,r1,r2⟩:=q1.get (List.getElem?_eq_getElem hi)
 rw [← r2.oneCell]
 exact (q3 i x r1).2
theorem appendA_spec (h:HRel w0 G L H w) {t u ty:TypeId} {s x s' x' v:Value} {H':AH} (hr:appendA P G H t u s x = some (v,H')) (hs:VR L s s') (hx:VR L x x') :
  H.nx ≤ H'.nx∧∃ y w' L',(Builtin.append_ #[t,u] ty #[s',x']).run P w = .ok y w'∧Lam.ext H.nx L L'∧HRel w0 G L' H' w'∧VR L' v y:=by
 unfold appendA at hr
 split at hr
 case h_2=>cases hr
 rename_i e he
 have hu:=elemT_slice he
 split at hr
 ·cases hr
 rename_i i hi
 split at hr
 ·cases hr
 rename_i m news hsrc
 obtain ⟨c0,hr⟩:=cc hr
 simp only [Bool.and_eq_true] at c0
 obtain ⟨⟨⟨⟨c1,c2⟩,c3⟩,c4⟩,c5⟩:=c0
 have c2:news.length = m * i.size:=Nat.eq_of_beq_eq_true c2
 have c3:0 < i.size:=by simpa using c3
 cases hz:i.zero with
 | none=>rw [hz] at c5; cases c5
 | some z =>
 rw [hz] at c5
 simp only [Bool.and_eq_true] at c5
 have c5:z.cells.size = i.size:=Nat.eq_of_beq_eq_true c5.1
 obtain ⟨xn,s1,s2,s3⟩:=srcA_spec (P:=P) h hsrc hx
 by_cases hm:m = 0
 ·subst hm
  simp only [Nat.beq_refl,cond_true] at hr
  obtain ⟨d0,hr⟩:=cc hr
  simp only [Option.some.injEq,Prod.mk.injEq] at hr
  obtain ⟨rfl,rfl⟩:=hr
  have hn0:xn = []:=by
   have:=s1.1; rw [c2] at this
   exact List.eq_nil_of_length_eq_zero (by omega)
  subst hn0
  have hf0:(Builtin.firstCells i.size 0 x').run P w = .ok #[] w:=s3 w rfl
  unfold lenOK at d0
  split at d0
  ·cases hs
   exact ⟨Nat.le_refl _,_,w,L,run_append_none hu c1 hi (s2 w) hf0 (Nat.le_refl _),Lam.ext_refl _ L,h,.nils⟩
  ·cases hs with
   | opq a c=>exact ⟨Nat.le_refl _,_,w,L,run_append_none hu c1 hi (s2 w) hf0 (Nat.zero_le _),Lam.ext_refl _ L,h,.opq a c⟩
  ·rename_i b o n cap _
   cases hs with
   | slice hp =>
    rename_i p
    have d0:=ble d0
    refine ⟨Nat.le_refl _,_,w,L,run_append_none hu c1 hi (s2 w) hf0 ?_,Lam.ext_refl _ L,h,.slice hp⟩
    cases hq:isOpen cap with
    | true=>rw [ccap_open hq]; omega
    | false=>rw [ccap_closed hq]; omega
  ·cases d0
 rw [beqF hm] at hr
 simp only [cond_false] at hr
 split at hr
 ·-- nil
  obtain ⟨d0,hr⟩:=cc hr
  simp only [Option.some.injEq,Prod.mk.injEq] at hr
  obtain ⟨rfl,rfl⟩:=hr
  simp only [Bool.and_eq_true] at d0
  obtain ⟨⟨⟨d1,d2⟩,d3⟩,d4⟩:=d0
  have d1:=ble d1
  have d2:=ble d2
  cases hs
  have hrun:=run_append_new (P:=P) (ty:=ty) (base:=none) (sLen:=0) (sCap:=0) (olds:=[]) (news:=xn) hu c1 hi hz (s2 w) (s3 w.drew rfl) (by simp [Builtin.firstCells]) (by omega) (by omega) (growslice_fits (by omega) (by simpa using d1))
  have hl:=grow_laid (w:=w) (L:=L) (n:=0) (m:=m) (sz:=i.size) (cap:=0) (e:=e) (z:=z) (olds:=[]) (news:=news) (xo:=[]) (xn:=xn) (by simpa using s1) (by simpa using c2) (by simpa using c4) (by simpa using d3) c5 (fz:=(0,0)) (.inl rfl) (by omega)
  obtain ⟨L',l1,l2,l3⟩:=h.laid hl d4
  exact ⟨Nat.le_succ _,_,_,L',hrun,l1,by simpa using l2,by simpa using l3⟩
 ·rename_i b o n cap _
  split at hr
  ·rename_i nn tr ty' op fz olds hb hold
   cases hs with
   | slice hp =>
   rename_i p
   have hone:=h.cellsOne hold hp
   obtain ⟨xo,o1,o2,o3⟩:=cellsA_spec h hold hp
   obtain ⟨k,hk⟩:∃ k,k = cap / 2:=⟨_,rfl⟩
   rw [← hk] at hr
   have hcap:(isOpen cap = true∧ccap cap p.ext = k + p.ext) ∨ (isOpen cap = false∧ccap cap p.ext = k):=by
    cases hq:isOpen cap with
    | true=>exact .inl ⟨rfl,by rw [ccap_open hq,hk]⟩
    | false=>exact .inr ⟨rfl,by rw [ccap_closed hq,hk]⟩
   by_cases hroom:n + m ≤ k
   ·rw [show Nat.ble (n + m) k = true by simpa using hroom] at hr
    simp only [cond_true] at hr
    obtain ⟨d0,hr⟩:=cc hr
    simp only [Option.some.injEq,Prod.mk.injEq] at hr
    obtain ⟨rfl,rfl⟩:=hr
    simp only [Bool.and_eq_true] at d0
    obtain ⟨⟨⟨⟨d1,d2⟩,d3⟩,d4⟩,d5⟩:=d0
    obtain ⟨w',q1,q2,_⟩:=h.write (P:=P) hb hp (ble d1) d2 (off:=o + n * i.size) (cs:=news) (xs:=xn) (ble d4) d3 c4 (ble d5) s1
    have hrun:=run_append_room (P:=P) (ty:=ty) (c:=p.b) (o:=p.base + o) (n:=n) (cap:=ccap cap p.ext) (w:=w) hu c1 hi (s2 w) (s3 w rfl) (by rcases hcap with ⟨_,q⟩ | ⟨_,q⟩ <;> omega) (by rw [Nat.add_assoc]; exact q1)
    exact ⟨Nat.le_refl _,_,w',L,hrun,Lam.ext_refl _ L,q2,.slice hp⟩
   ·have hnr:Nat.ble (n + m) k = false:=by
     cases q:Nat.ble (n + m) k with
     | false=>rfl
     | true=>exact absurd (ble q) hroom
    rw [hnr] at hr
    simp only [cond_false] at hr
    obtain ⟨d0,hr⟩:=cc hr
    simp only [Bool.and_eq_true] at d0
    obtain ⟨⟨⟨⟨⟨⟨d1,d2⟩,d3⟩,d4⟩,d5⟩,d6⟩,d7⟩:=d0
    have d1:=ble d1
    have d2:=ble d2
    have d6:olds.length = n * i.size:=Nat.eq_of_beq_eq_true d6
    have hlen:(olds++news).length = (n + m) * i.size:=by rw [List.length_append,d6,c2,Nat.add_mul]
    have hall:=all_app hone c4
    have hof:∀ c',(Builtin.firstCells i.size n (.slice (some ⟨p.b,p.base + o,none⟩) n c')).run P w.drew = .ok xo.toArray w.drew:=fun c'=>by
     have:=run_loadCells_list (P:=P) w.drew ⟨p.b,p.base + o,none⟩ xo (fun j v hv=>by rw [Addr.add_none]; exact (o3 j v hv).1)
     rw [o2] at this
     simp [Builtin.firstCells,this]
    have hnew:ccap cap p.ext < n + m→∀ fz',fz' = (0,0) ∨ fz' = (1,0)→∃ y w',(Builtin.append_ #[t,u] ty #[.slice (some ⟨p.b,p.base + o,none⟩) n (ccap cap p.ext),x']).run P w = .ok y w' ∧
      Laid L w w' (.cells ((n + m) * i.size) (T.setRow .nil 0 (olds++news)) e (some i.size) fz') (fun b=>.slice (some ⟨b,0,none⟩) (n + m) (2 * (n + m) + 1)) y:=fun hlt fz' hfz' =>
     ⟨_,_,run_append_new (P:=P) (ty:=ty) hu c1 hi hz (s2 w) (s3 w.drew rfl) (hof _) hlt (by omega) (growslice_fits hlt d1),grow_laid (o1.append s1) hlen hall d3 c5 hfz' d2⟩
    rcases hcap with ⟨hop,hcc⟩ | ⟨hop,hcc⟩
    ·rw [hop] at hr
     simp only [cond_true] at hr
     obtain ⟨g0,hr⟩:=cc hr
     simp only [Option.some.injEq,Prod.mk.injEq] at hr
     obtain ⟨rfl,rfl⟩:=hr
     simp only [Bool.and_eq_true,Bool.or_eq_true] at g0
     obtain ⟨⟨⟨⟨⟨g1,g2⟩,g3⟩,g4⟩,g5⟩,g6⟩:=g0
     have hfz:fz = (0,0) ∨ fz = (1,0):=by
      obtain ⟨f1,f2⟩:=fz
      have e2:f2 = 0:=Nat.eq_of_beq_eq_true g6
      rcases g5 with g5 | g5
      ·have e1:f1 = 0:=Nat.eq_of_beq_eq_true g5
       left; rw [e1,e2]
      ·have e1:f1 = 1:=Nat.eq_of_beq_eq_true g5
       right; rw [e1,e2]
     have g2:ty' = e:=Nat.eq_of_beq_eq_true g2
     subst g2
     have g4:nn = o + k * i.size:=Nat.eq_of_beq_eq_true g4
     cases op with
     | none=>cases g3
     | some sz =>
     have g3:sz = i.size:=Nat.eq_of_beq_eq_true g3
     subst g3
     have hkill:=h.kill (b:=b) d5
     by_cases hin:n + m ≤ k + p.ext
     ·-- in place
      obtain ⟨cur,fr,a1,a2,a3,a4⟩:=h.obj b _ p hb hp
      simp only at a3
      have hnk:n ≤ k:=ble d7
      have hfit:p.base + o + n * i.size + xn.length ≤ cur.size:=by
       have e1:xn.length = m * i.size:=by rw [← s1.1]; exact c2
       have e2:(n + m) * i.size ≤ (k + p.ext) * i.size:=Nat.mul_le_mul_right _ hin
       rw [Nat.add_mul,Nat.add_mul] at e2
       omega
      have hone':∀ v ∈ xn,v.oneCell' = true:=by
       intro y hy
       obtain ⟨j,hj,rfl⟩:=List.getElem_of_mem hy
       have hj':j < news.length:=by rw [s1.1]; exact hj
       have:=s1.2 j _ _ (List.getElem?_eq_getElem hj') (List.getElem?_eq_getElem hj)
       rw [this.oneCell]
       exact List.all_eq_true.1 c4 _ (List.getElem_mem hj')
      have hnf:NF fr (p.base + o + n * i.size) (p.base + o + n * i.size + xn.length):=by
       have:=NF_of (fz:=fz) (fr:=fr) (base:=p.base) (size:=cur.size) (a:=o + n * i.size) (b:=o + n * i.size + xn.length) a2 (by rcases hfz with rfl | rfl <;> simp) (by omega)
       simpa [Nat.add_assoc] using this
      have hst:=run_storeCells_any P p.b (p.base + o + n * i.size) ty' fr xn 0 cur w a1 hnf (by omega) hone'
      simp only [Nat.add_zero] at hst
      have hrun:=run_append_room (P:=P) (ty:=ty) (c:=p.b) (o:=p.base + o) (n:=n) (cap:=ccap cap p.ext) (w:=w) hu c1 hi (s2 w) (s3 w rfl) (by omega) hst
      have hpush:=hkill.push (o:=.cells ((n + m) * i.size) (T.setRow .nil 0 (olds++news)) ty' (some i.size) fz) (show small (H.set b .dead).nx = true from d4)
      have hnx:L H.nx = none:=h.none_nx
      have hwr:=Wrote.setRow w p.b (cur.toList.take (p.base + o + n * i.size)++xn++cur.toList.drop (p.base + o + n * i.size + xn.length)).toArray
      have hreal:=hpush.realAt (b:=H.nx) (p:=⟨p.b,p.base + o,k + p.ext - (n + m)⟩) (by rw [AH.get_push (show small (H.set b .dead).nx = true from d4)]; exact if_pos rfl) hnx h.gnx (by show H.nx < H.nx + 1; omega) (h.own b p (ble g1) hp) (h.lt b p hp) (fun c o' q r1 r2 r3 r4=>by
        rw [AH.get_push (show small (H.set b .dead).nx = true from d4)] at r1
        change (if c = H.nx then _ else _) = _ at r1
        by_cases e1:c = H.nx
        ·subst e1; rw [hnx] at r3; cases r3
        ·rw [if_neg e1,AH.get_set d5] at r1
         by_cases e2:c = b
         ·subst e2; rw [if_pos rfl] at r1; cases r1; simp [AObj.alive] at r2
         ·rw [if_neg e2] at r1
          exact e2 (h.inj c b o' _ q p r1 hb r2 rfl r3 hp r4)) hwr (by
        refine ⟨_,fr,setRow_heap w p.b cur _ ty' fr a1,?_,?_,fun j hj=>?_⟩
        ·rcases hfz with rfl | rfl
         ·rcases a2 with ⟨_,q⟩ | ⟨q,_⟩ | ⟨_,q⟩ | q
          ·exact .inl ⟨rfl,q⟩
          ·cases q
          ·exact .inl ⟨rfl,q⟩
          ·exact absurd q (Nat.not_lt_zero _)
         ·rcases a2 with ⟨q,_⟩ | ⟨_,q⟩ | ⟨_,q⟩ | q
          ·cases q
          ·exact .inr (.inl ⟨rfl,q.imp id fun q=>by simp; omega⟩)
          ·exact .inr (.inl ⟨rfl,.inl (by rw [q]; simp)⟩)
          ·exact absurd q (Nat.not_lt_zero _)
        ·simp only [List.size_toArray,List.length_append,List.length_take,List.length_drop,Array.length_toList]
         have e2:(k + p.ext) * i.size = (n + m) * i.size + (k + p.ext - (n + m)) * i.size:=by rw [← Nat.add_mul]; congr 1; omega
         have e3:(k + p.ext) * i.size = k * i.size + p.ext * i.size:=Nat.add_mul _ _ _
         omega
        ·have hj':j < (olds++news).length:=by omega
         have hol:olds.length = xo.length:=o1.1
         obtain ⟨y,r1,r2⟩:=(o1.append s1).get (List.getElem?_eq_getElem hj')
         refine ⟨_,y,?_,?_,r2.mono (Lam.le_upd hnx),?_⟩
         ·rw [T.get_setRow _ _ _ (by rw [hlen]; simpa using d3),if_pos ⟨Nat.zero_le _,by omega⟩]
          simp
         ·simp only [List.getElem?_toArray]
          rcases Nat.lt_or_ge j (n * i.size) with jl | jl
          ·rw [List.append_assoc,List.getElem?_append_left (by simp; omega),List.getElem?_take,if_pos (by omega)]
           rw [List.getElem?_append_left (by omega)] at r1
           have:=(o3 j y r1).1
           simp only [World.cell?,a1] at this
           simpa [Nat.add_assoc] using this
          ·rw [List.append_assoc,List.getElem?_append_right (by simp; omega)]
           rw [List.getElem?_append_right (by omega)] at r1
           have hjx:j - xo.length < xn.length:=(List.getElem?_eq_some_iff.1 r1).1
           rw [List.getElem?_append_left (by simp; omega)]
           rw [← r1]
           congr 1
           simp; omega
         ·rw [r2.oneCell]; exact List.all_eq_true.1 hall _ (List.getElem_mem hj'))
      refine ⟨Nat.le_succ _,_,_,_,hrun,Lam.ext_upd hnx,hreal,?_⟩
      have hv:=VR.slice (L:=L.upd H.nx ⟨p.b,p.base + o,k + p.ext - (n + m)⟩) (b:=H.nx) (o:=0) (len:=n + m) (cap:=2 * (n + m) + 1) (p:=⟨p.b,p.base + o,k + p.ext - (n + m)⟩) (by unfold Lam.upd; rw [if_pos rfl])
      rw [ccap_odd] at hv
      simp only [show n + m + (k + p.ext - (n + m)) = ccap cap p.ext by rw [hcc]; omega] at hv
      simpa using hv
     ·obtain ⟨y,w',r1,r2⟩:=hnew (by omega) fz hfz
      obtain ⟨L',l1,l2,l3⟩:=hkill.laid (L:=L) r2 d4
      exact ⟨Nat.le_succ _,y,w',L',r1,l1,l2,l3⟩
    ·rw [hop] at hr
     simp only [cond_false] at hr
     simp only [Option.some.injEq,Prod.mk.injEq] at hr
     obtain ⟨rfl,rfl⟩:=hr
     obtain ⟨y,w',r1,r2⟩:=hnew (by omega) (0,0) (.inl rfl)
     obtain ⟨L',l1,l2,l3⟩:=h.laid r2 d4
     exact ⟨Nat.le_succ _,y,w',L',r1,l1,l2,l3⟩
  ·cases hr
 ·cases hr
end
end Go.Run
