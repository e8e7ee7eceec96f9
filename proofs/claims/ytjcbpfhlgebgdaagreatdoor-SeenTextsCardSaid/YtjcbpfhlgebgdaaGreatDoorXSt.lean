import Derived.Test.YtjcbpfhlgebgdaaGreatDoorPLayP
import Derived.Test.YtjcbpfhlgebgdaaGreatDoorXGPk
import Derived.Test.YtjcbpfhlgebgdaaGreatDoorXGCk
set_option linter.unusedSimpArgs false
set_option linter.unusedVariables false
namespace Go.Proofs.YtjcbpfhlgebgdaaGreatDoor
open Go Go.Eng Go.RowKit Go.X Go.Seq Go.Shelf
theorem zld:Go.Proofs.Builder.Extra Tryz.prog Tryz.wsI_ren where
 sizeBuilder:=by kernel_rfl
 liesBuilder:=by kernel_rfl
 t5:=Tryz.underlying5
 a5:=Tryz.isAgg5
 z5:=Tryz.sizeOf5
 v5:=Tryz.zeroValue5
 infoByte:=by kernel_rfl
 cellsByte:=by kernel_rfl
 sizeByte:=by kernel_rfl
 neB5:=by decide
structure TI (N:Nat) (w1:World) (acc:List UInt8) (W:World):Prop where
 isb:Lib.IsBuilderF 51 5 N N (Lib.byteCells acc) W
 bel:Below N w1 W
 sz:N + 1 <= W.heap.size
theorem TI.alloc {N:Nat} {w1 W:World} {acc:List UInt8} (h:TI N w1 acc W) (o:Obj):TI N w1 acc (W.alloc o) :=
 ⟨h.isb.alloc o,h.bel.alloc (by have:=h.sz; omega) o,by have:=h.sz; simp; omega⟩
theorem TI.put {N:Nat} {w1 W W':World} {acc acc':List UInt8} (h:TI N w1 acc W) (hb:Lib.BuilderAtF 51 5 N N (.pointer (some ⟨N,0,none⟩)) (Lib.byteCells acc') W') (hl:Below N W W'):TI N w1 acc' W' :=
 ⟨.inr hb,⟨hl.os.trans h.bel.os,hl.tape.trans h.bel.tape,hl.output.trans h.bel.output,Nat.le_trans h.bel.size hl.size,fun k hk=>(hl.block k hk).trans (h.bel.block k hk)⟩,hb.lt⟩
theorem zoI {N:Nat} {bs:List Value} {A B:World} (h:Lib.IsBuilderF 51 5 N N bs A) (hf:Below A.heap.size A B):Lib.IsBuilderF 51 5 N N bs B:=by
 have key:∀ p,Lib.BuilderAtF 51 5 N N p bs A->Lib.BuilderAtF 51 5 N N p bs B:=by
  rintro p ⟨h1,v,h2,⟨hl,h0 | ⟨g,cap,cur,fz,hv,hb,hg,r⟩⟩,h4⟩
  ·exact ⟨h1,v,(hf.block N (Array.getElem?_eq_some_iff.1 h2).1).trans h2,⟨hl,.inl h0⟩,h4⟩
  ·exact ⟨h1,v,(hf.block N (Array.getElem?_eq_some_iff.1 h2).1).trans h2,⟨hl,.inr ⟨g,cap,cur,fz,hv,hb,(hf.block g (Array.getElem?_eq_some_iff.1 hg).1).trans hg,r⟩⟩,h4⟩
 exact h.imp (key _) (key _)
theorem TI.below {N:Nat} {w1 W W':World} {acc:List UInt8} (h:TI N w1 acc W) (hl:Below W.heap.size W W'):TI N w1 acc W' :=
 ⟨zoI h.isb hl,yR h.bel (by have:=h.sz; omega) hl,Nat.le_trans h.sz hl.size⟩
theorem strCells_eq (t:List UInt8):Lib.strCells ⟨t.toArray⟩ = Lib.byteCells t:=by
 simp [Lib.strCells,Lib.byteCells]
theorem zhv (a b:List UInt8):Lib.byteCells (a++b) = Lib.byteCells a++Lib.byteCells b:=by simp [Lib.byteCells]
theorem zt9 {k n:Nat} (h:k < n):(k:Int) < (n:Int):=by omega
theorem zua {k:Nat} (h:k <= 100000):wrap64 ((k:Int) + 1) = k + 1:=IntWalk.wrap64_in _ (by omega)
theorem znH {N:Nat} {w1 W:World} {acc:List UInt8} (h:TI N w1 acc W):N <= W.heap.size:=Nat.le_of_lt h.sz
theorem ztJ {k n:Nat} (h:k < n):((n:Int) - intOf (.int .i64 ((k:Int) + 1))).toNat < ((n:Int) - intOf (.int .i64 (k:Int))).toNat:=by simp only [intOf]; omega
theorem zub {k n:Nat} (h:k <= n) (h2:¬ k < n):k = n:=by omega
theorem ztK {n:Nat} (h:20000 < n):(20000:Int) < (n:Int):=by omega
theorem zs7 {n:Nat} (h:¬ 20000 < n):¬ (20000:Int) < (n:Int):=by omega
theorem zjD {N:Nat} {w W W':World} (h:Below w.heap.size w W) (hb:Below N W W') (hN:w.heap.size <= N):Below w.heap.size w W' :=
 ⟨hb.os.trans h.os,hb.tape.trans h.tape,hb.output.trans h.output,Nat.le_trans h.size hb.size,fun k hk=>(hb.block k (Nat.lt_of_lt_of_le hk hN)).trans (h.block k hk)⟩
def qb (x:Mrk):Obj:=.cells #[.int .i64 x.ID.Node,.int .u64 x.ID.Seq,.int .i64 x.ID.Off,.int .i64 x.Until] 81 (0,0)
def zai (x:ID):Value:=.agg #[.int .i64 x.Node,.int .u64 x.Seq,.int .i64 x.Off]
structure zgX (w:World) (b o:Nat) (l:List Mrk):Prop where
 lt:b < w.heap.size
 c:∀ (i:Nat) (x:Mrk),l[i]? = some x->w.cell? ⟨b,o + i * 4,none⟩ = some (.int .i64 x.ID.Node)/\w.cell? ⟨b,o + i * 4 + 1,none⟩ = some (.int .u64 x.ID.Seq)/\w.cell? ⟨b,o + i * 4 + 2,none⟩ = some (.int .i64 x.ID.Off)/\w.cell? ⟨b,o + i * 4 + 3,none⟩ = some (.int .i64 x.Until)
theorem zgX.more {w W:World} {b o:Nat} {l:List Mrk} (h:zgX w b o l) (hb:Below w.heap.size w W):zgX W b o l :=
 ⟨Nat.lt_of_lt_of_le h.lt hb.size,fun i x hx=>by
  have e:∀ j,W.cell? ⟨b,j,none⟩ = w.cell? ⟨b,j,none⟩:=fun j=>hb.cell (p:=⟨b,j,none⟩) h.lt
  simp only [e]
  exact h.c i x hx⟩
def mkB (k t:List UInt8):List UInt8:=k++[47]++t++[10]
noncomputable def txS (key:ID->Option (List UInt8 × Int)) (ito:Int->Option (List UInt8)):List Mrk->List UInt8->Option (List UInt8 × Int)
 | [],acc=>some (acc,0)
 | x :: xs,acc=>(key x.ID).bind fun k=>(ito x.Until).bind fun t=>if (mkB k.1 t).length <= 1000000 then (if 20000 < (acc++mkB k.1 t).length then some ([],4) else txS key ito xs (acc++mkB k.1 t)) else none
theorem Q1 {W:World} {M:Nat} {x:Mrk} (h:W.heap[M]? = some (qb x)):W.cell? ⟨M,0,none⟩ = some (.int .i64 x.ID.Node)/\W.cell? ⟨M,1,none⟩ = some (.int .u64 x.ID.Seq)/\W.cell? ⟨M,2,none⟩ = some (.int .i64 x.ID.Off)/\W.cell? ⟨M,3,none⟩ = some (.int .i64 x.Until):=by
 unfold qb at h
 simp [World.cell?,h]
theorem zqQ (k t:List UInt8) (s1 s2:ByteArray) (h1:s1.data = #[47]) (h2:s2.data = #[10]):(⟨k.toArray⟩:ByteArray)++s1++⟨t.toArray⟩++s2 = ⟨(mkB k t).toArray⟩:=by
 apply ByteArray.ext
 simp [h1,h2,mkB]
theorem znI (k t:List UInt8) (s1 s2:ByteArray) (h1:s1.data = #[47]) (h2:s2.data = #[10]):((⟨k.toArray⟩:ByteArray)++s1++⟨t.toArray⟩++s2).size = (mkB k t).length:=by
 rw [zqQ k t s1 s2 h1 h2]; exact List.size_toArray
theorem zeY (k t:List UInt8) (s1 s2:ByteArray) (h1:s1.data = #[47]) (h2:s2.data = #[10]):Lib.strCells ((⟨k.toArray⟩:ByteArray)++s1++⟨t.toArray⟩++s2) = Lib.byteCells (mkB k t):=by
 rw [zqQ k t s1 s2 h1 h2,strCells_eq]
theorem zs8 {acc k t:List UInt8} (ha:acc.length <= 20000) (h:(mkB k t).length <= 1000000):acc.length + (mkB k t).length <= 140737488355328:=by omega
theorem ztL {k t:List UInt8} (h:(mkB k t).length <= 1000000):k.length <= 1000000000/\t.length <= 1000000000/\k.length + 1 <= 1000000000/\k.length + 1 + t.length <= 1000000000:=by
 simp only [mkB,List.length_append,List.length_cons,List.length_nil] at h; omega
theorem zqR {N:Nat} {w1 W W':World} {A B:List UInt8} (hti:TI N w1 A W)
  (v1:Lib.BuilderAtF 51 5 N N (.pointer (some ⟨N,0,none⟩)) (Lib.byteCells A++Lib.byteCells B) W') (v2:Below N W W'):TI N w1 (A++B) W' :=
 hti.put (by rw [zhv]; exact v1) v2
set_option maxRecDepth 20000 in
set_option maxHeartbeats 8000000 in
theorem zle (w:World) (b o cap:Nat) (l:List Mrk) (hl:l.length <= 100000) (ho:zgX w b o l) (key:ID->Option (List UInt8 × Int)) (ito:Int->Option (List UInt8))
  (hV:Calls Tryz.prog 42 #[.slice (some ⟨b,o,none⟩) l.length cap] w fun e W'=>(∃ n,e = .returned (.tuple #[.int .i64 0,.int .i64 n]))/\Below w.heap.size w W')
  (hK:∀ x ∈ l,∀ k,key x.ID = some k->∀ W,Below w.heap.size w W->Calls Tryz.prog 43 #[zai x.ID] W fun e W'=>e = .returned (.tuple #[.string ⟨k.1.toArray⟩,.int .i64 k.2])/\Below W.heap.size W W')
  (hI:∀ x ∈ l,∀ t,ito x.Until = some t->∀ W,Below w.heap.size w W->Calls Tryz.prog 44 #[.int .i64 x.Until] W fun e W'=>e = .returned (.string ⟨t.toArray⟩)/\Below W.heap.size W W')
  (s:List UInt8 × Int) (hs:txS key ito l [] = some s) :
  Calls Tryz.prog 14 #[.slice (some ⟨b,o,none⟩) l.length cap] w fun e W'=>e = .returned (.tuple #[.string ⟨s.1.toArray⟩,.int .i64 s.2])/\Below w.heap.size w W':=by
 have mixed:Tryz.prog.follows .mixedOrders = true:=by kernel_rfl
 go_enter Tryz.func14,Tryz.ntmps14
 go_wp2_with (go_at_call 42; refine hV.mono ?_; rintro e w1 ⟨⟨n0,rfl⟩,x1⟩)
 obtain ⟨N,hN0⟩:∃ N,w1.heap.size = N:=⟨_,rfl⟩
 simp only [hN0]
 have hx1:w.heap.size <= w1.heap.size:=x1.size
 go_loopw [21] (fun v21 wr=>∃ (i:Nat) (acc:List UInt8),v21 = .int .i64 i/\i <= l.length/\txS key ito (l.drop i) acc = some s/\TI N w1 acc wr/\acc.length <= 20000)
  (fun v21 wr=>((l.length:Int) - intOf v21).toNat)
 case atStart =>
  have hsz:(w1.alloc (.cells #[.pointer none,.slice none 0 0] 51)).heap.size = N + 1:=by simp [hN0]
  exact ⟨0,[],rfl,Nat.zero_le _,by simpa using hs,⟨by rw [<- hN0]; exact Lib.IsBuilderF.of (Lib.fresh_isBuilder _ _ _),(Below.refl _ _).alloc (by omega) _,by omega⟩,by simp⟩
 case round =>
  obtain ⟨i,acc,rfl,hi,hq,hti,hal⟩:=hrel
  have hww:Below w.heap.size w wr:=⟨hti.bel.os.trans x1.os,hti.bel.tape.trans x1.tape,hti.bel.output.trans x1.output,Nat.le_trans x1.size hti.bel.size,fun k hk=>(hti.bel.block k (by have:=x1.size; omega)).trans (x1.block k hk)⟩
  by_cases hil:i < l.length
  ·obtain ⟨x,hx⟩:∃ x,l[i]? = some x:=⟨l[i],List.getElem?_eq_getElem hil⟩
   have hdr:l.drop i = x :: l.drop (i + 1):=by
    rw [List.drop_eq_getElem_cons hil]
    congr 1
    rw [List.getElem?_eq_getElem hil] at hx
    exact Option.some.inj hx
   rw [hdr,txS] at hq
   obtain ⟨k,hk,hq1⟩:=bind_some hq
   obtain ⟨t,ht,hq2⟩:=bind_some hq1
   clear hq hq1
   split at hq2
   case isFalse=>cases hq2
   rename_i hlen
   obtain ⟨c0,c1,c2,c3⟩:=(ho.more hww).c i x hx
   have hxl:x ∈ l:=List.mem_of_getElem? hx
   have bl:(i:Int) < l.length:=zt9 hil
   have hwa:Below w.heap.size w (wr.alloc (qb x)):=hww.alloc hww.size _
   have hcK:=hK x hxl k hk (wr.alloc (qb x)) hwa
   have hcI:=hI x hxl t ht
   have wr1:wrap64 ((i:Int) + 1) = i + 1:=zua (Nat.le_trans hi hl)
   have hti1:=hti.alloc (qb x)
   have hM:(wr.alloc (qb x)).heap[wr.heap.size]? = some (qb x):=ahn _ _
   have hMl:wr.heap.size < (wr.alloc (qb x)).heap.size:=(Array.getElem?_eq_some_iff.1 hM).1
   have hbw:acc.length + (mkB k.1 t).length <= 140737488355328:=zs8 hal hlen
   obtain ⟨l1,l2,l3,l4⟩:=ztL hlen
   obtain ⟨k1,k2⟩:=k
   dsimp only at hcK hq2 hlen hbw l1 l2 l3 l4
   clear hK hI hV ho hs hdr hxl hk ht hti hww hi
   obtain ⟨L,hL⟩:∃ L,(acc++mkB k1 t).length = L:=⟨_,rfl⟩
   by_cases h20:20000 < L
   ·rw [hL,if_pos h20] at hq2
    cases hq2
    have h20':(20000:Int) < (L:Int):=ztK h20
    go_wp2_with (first
     | (go_at_call 43; refine hcK.mono ?_; rintro e W1 ⟨rfl,y1⟩; have hti2:=hti1.below y1; have hM1:=(y1.block _ hMl).trans hM; obtain ⟨m0,m1,m2,m3⟩:=Q1 hM1; have hwb:=yR hwa hwa.size y1)
     | (go_at_call 44; refine (hcI W1 hwb).mono ?_; rintro e W2 ⟨rfl,y2⟩; have hti3:=hti2.below y2)
     | (go_at_call 24; refine Calls.mono (Any.Builder_WriteString_k Tryz.wsI zld N N _ _ W2 hti3.isb (by rw [Lib.byteCells_length,znI _ _ _ _ rfl rfl]; exact hbw) (znH hti3)) ?_; rintro e W3 ⟨rfl,v1,v2,v3⟩; rw [zeY _ _ _ _ rfl rfl] at v1; have hti4:=zqR hti3 v1 v2; clear v1 v2 v3)
     | (go_at_call 25; refine (Any.Builder_Len_f Tryz.lnI N N _ _ hti4.isb).mono ?_; rintro e W4 ⟨rfl,rfl⟩; rw [Lib.byteCells_length,hL]))
    go_ret2
    exact ⟨rfl,zjD x1 hti4.bel (by rw [<- hN0]; exact hx1)⟩
   ·rw [hL,if_neg h20] at hq2
    have h20':¬ (20000:Int) < (L:Int):=zs7 h20
    go_wp2_with (first
     | (go_at_call 43; refine hcK.mono ?_; rintro e W1 ⟨rfl,y1⟩; have hti2:=hti1.below y1; have hM1:=(y1.block _ hMl).trans hM; obtain ⟨m0,m1,m2,m3⟩:=Q1 hM1; have hwb:=yR hwa hwa.size y1)
     | (go_at_call 44; refine (hcI W1 hwb).mono ?_; rintro e W2 ⟨rfl,y2⟩; have hti3:=hti2.below y2)
     | (go_at_call 24; refine Calls.mono (Any.Builder_WriteString_k Tryz.wsI zld N N _ _ W2 hti3.isb (by rw [Lib.byteCells_length,znI _ _ _ _ rfl rfl]; exact hbw) (znH hti3)) ?_; rintro e W3 ⟨rfl,v1,v2,v3⟩; rw [zeY _ _ _ _ rfl rfl] at v1; have hti4:=zqR hti3 v1 v2; clear v1 v2 v3)
     | (go_at_call 25; refine (Any.Builder_Len_f Tryz.lnI N N _ _ hti4.isb).mono ?_; rintro e W4 ⟨rfl,rfl⟩; rw [Lib.byteCells_length,hL]))
    go_roundw
    case rel=>exact ⟨i + 1,acc++mkB k1 t,by simp,hil,hq2,hti4,by rw [hL]; exact Nat.le_of_not_lt h20⟩
    case measure=>first | exact ztJ hil | (rw [wr1]; exact ztJ hil)
  ·obtain rfl:i = l.length:=zub hi hil
   rw [List.drop_length,txS] at hq
   cases hq
   clear hK hI hV ho hs x1 hi hil
   go_wp2_with (go_at_call 26; refine (Any.Builder_String_any_k Tryz.bsI zgc N N acc _ hti.isb (znH hti)).mono ?_; rintro e W3 ⟨rfl,v1,v2,v3⟩)
   go_ret2
   exact ⟨rfl,zjD hww v2 (by rw [<- hN0]; exact hx1)⟩
open Go Go.Eng Go.RowKit Go.X Go.Seq Go.Shelf
theorem zaM {f:FuncId} {ak:List AK} {rs:List C} {g:qu (qa ak)->Option (qu rs)} (hg:FnT Tryz.prog f ak rs g) {W:World} {pr:Nat->Nat->Prop} (hl:HL W pr) {x:qu (qa ak)} {r:qu rs} (h:g x = some r)
  {args:Array Value} (ha:RL ⟨W,pr,fun _=>none⟩ (zg (yr ak (qT _ x))) args.toList) :
  Calls Tryz.prog f args W fun e W'=>∃ v pr',e = .returned v/\R ⟨W',pr',fun _=>none⟩ (zeR rs r) v/\Below W.heap.size W W':=by
 refine (hg x r h W pr (fun _=>none) args hl ha (fun i B h=>by simp at h) (fun i j b h=>by cases h) (fun _ _=>rfl)).mono ?_
 rintro en W' ⟨v,pr',rfl,hr,_,hk⟩
 exact ⟨v,pr',rfl,hr,⟨hk.os,hk.tape,hk.output,hk.size,fun k h=>hk.block k h (fun i e=>by cases e)⟩⟩
theorem zoJ {w W:World} {pr:Nat->Nat->Prop} (hl:HL w pr) (hb:Below w.heap.size w W) {n:Int} {t:List UInt8} (h:strconv_Itoa n = some t) :
  Calls Tryz.prog 44 #[.int .i64 n] W fun e W'=>e = .returned (.string ⟨t.toArray⟩)/\Below W.heap.size W W':=by
 refine (zaM (zlf Tryz.itoaI zgT) (za3 hl hb) (x:=n) h (args:=#[.int .i64 n]) (by
  show RL _ [.int .i64 n] [.int .i64 n]
  simp only [RL,R]; exact ⟨_,_,rfl,rfl,rfl⟩)).mono ?_
 rintro e W' ⟨v,pr',rfl,hr,hb'⟩
 change R _ (.str t) v at hr
 simp only [R] at hr
 exact ⟨by rw [hr.1],hb'⟩
theorem zs9 {E:Env} (x:ID):R E (.agg [.int .i64 x.Node,.int .u64 x.Seq,.int .i64 x.Off]) (zai x):=by
 unfold zai
 simp only [R,RL]
 refine ⟨[.int .i64 x.Node,.int .u64 x.Seq,.int .i64 x.Off],rfl,⟨_,_,rfl,rfl,_,_,rfl,rfl,_,_,rfl,rfl,rfl⟩,?_⟩
 intro y hy; simp at hy; rcases hy with rfl | rfl | rfl <;> rfl
theorem zqS {w W:World} {pr:Nat->Nat->Prop} (hl:HL w pr) (hb:Below w.heap.size w W) {x:ID} {k:List UInt8 × Int} (h:yQ x = some k) :
  Calls Tryz.prog 43 #[zai x] W fun e W'=>e = .returned (.tuple #[.string ⟨k.1.toArray⟩,.int .i64 k.2])/\Below W.heap.size W W':=by
 refine (zaM yQ.fn (za3 hl hb) (x:=x) h (args:=#[zai x]) (by
  show RL _ [.agg [.int .i64 x.Node,.int .u64 x.Seq,.int .i64 x.Off]] [zai x]
  simp only [RL]; exact ⟨_,_,rfl,zs9 x,rfl⟩)).mono ?_
 rintro e W' ⟨v,pr',rfl,hr,hb'⟩
 change R _ (.tup [.str k.1,.int .i64 k.2]) v at hr
 simp only [R,RL] at hr
 obtain ⟨xs,rfl,y,ys,rfl,⟨rfl,_⟩,y2,ys2,rfl,rfl,rfl⟩:=hr
 exact ⟨rfl,hb'⟩
set_option maxRecDepth 20000 in
set_option maxHeartbeats 8000000 in
theorem zjE (w:World) (sv:Value) (c n:Int) (hc:c ≠ 0)
  (hV:Calls Tryz.prog 42 #[sv] w fun e W'=>e = .returned (.tuple #[.int .i64 c,.int .i64 n])/\Below w.heap.size w W') :
  Calls Tryz.prog 14 #[sv] w fun e W'=>e = .returned (.tuple #[.string ⟨#[]⟩,.int .i64 c])/\Below w.heap.size w W':=by
 have hcb:(c != 0) = true:=bne_iff_ne.2 hc
 go_enter Tryz.func14,Tryz.ntmps14
 go_wp2_with (go_at_call 42; refine hV.mono ?_; rintro e w1 ⟨rfl,x1⟩)
 go_ret2
 exact ⟨rfl,x1⟩
set_option maxRecDepth 20000 in
set_option maxHeartbeats 8000000 in
theorem zjF (w:World) (base:Option Addr) (cap:Nat)
  (hV:Calls Tryz.prog 42 #[.slice base 0 cap] w fun e W'=>(∃ n,e = .returned (.tuple #[.int .i64 0,.int .i64 n]))/\Below w.heap.size w W') :
  Calls Tryz.prog 14 #[.slice base 0 cap] w fun e W'=>e = .returned (.tuple #[.string ⟨#[]⟩,.int .i64 0])/\Below w.heap.size w W':=by
 have mixed:Tryz.prog.follows .mixedOrders = true:=by kernel_rfl
 go_enter Tryz.func14,Tryz.ntmps14
 go_wp2_with (go_at_call 42; refine hV.mono ?_; rintro e w1 ⟨⟨n0,rfl⟩,x1⟩)
 obtain ⟨N,hN0⟩:∃ N,w1.heap.size = N:=⟨_,rfl⟩
 simp only [hN0]
 have hx1:w.heap.size <= w1.heap.size:=x1.size
 go_loopw [21] (fun v21 wr=>v21 = .int .i64 0/\TI N w1 [] wr) (fun v21 wr=>0)
 case atStart =>
  have hsz:(w1.alloc (.cells #[.pointer none,.slice none 0 0] 51)).heap.size = N + 1:=by simp [hN0]
  exact ⟨rfl,by rw [<- hN0]; exact Lib.IsBuilderF.of (Lib.fresh_isBuilder _ _ _),(Below.refl _ _).alloc (by omega) _,by omega⟩
 case round =>
  obtain ⟨rfl,hti⟩:=hrel
  have hww:Below w.heap.size w wr:=⟨hti.bel.os.trans x1.os,hti.bel.tape.trans x1.tape,hti.bel.output.trans x1.output,Nat.le_trans x1.size hti.bel.size,fun k hk=>(hti.bel.block k (by have:=x1.size; omega)).trans (x1.block k hk)⟩
  clear hV x1
  go_wp2_with (go_at_call 26; refine (Any.Builder_String_any_k Tryz.bsI zgc N N [] _ hti.isb (znH hti)).mono ?_; rintro e W3 ⟨rfl,v1,v2,v3⟩)
  go_ret2
  exact ⟨rfl,zjD hww v2 (by rw [<- hN0]; exact hx1)⟩
theorem znJ {key:ID->Option (List UInt8 × Int)} {ito:Int->Option (List UInt8)}:∀ {l:List Mrk} {acc:List UInt8} {s:List UInt8 × Int},txS key ito l acc = some s->acc.length <= 20000->s.1.length <= 20000
 | [],acc,s,h,ha=>by cases h; exact ha
 | x :: xs,acc,s,h,ha=>by
  rw [txS] at h
  obtain ⟨k,hk,h1⟩:=bind_some h
  obtain ⟨t,ht,h2⟩:=bind_some h1
  split at h2
  ·split at h2
   ·cases h2; simp
   ·rename_i q
    exact znJ h2 (by omega)
  ·cases h2
noncomputable def y9 (l:List Mrk):Option (List UInt8 × Int) :=
 if l.length <= 100000 then (zz l).bind fun c=>if c.1 = 0 then txS yQ strconv_Itoa l [] else some ([],c.1) else none
theorem y9.fn:FnT Tryz.prog 14 [.d .l_Mrk] [.str,.i64] y9:=by
 intro (l:List Mrk) r h
 refine zbY fun w pr lam cargs hl hargs=>?_
 unfold y9 at h
 split at h
 case isFalse=>cases h
 rename_i hlen
 obtain ⟨c,hc,h⟩:=bind_some h
 have hargs':RL ⟨w,pr,lam⟩ [.list (l.map (enc .Mrk))] cargs.toList:=hargs
 have hcv:Calls Tryz.prog 42 cargs w fun e W'=>e = .returned (.tuple #[.int .i64 c.1,.int .i64 c.2])/\Below w.heap.size w W':=by
  refine (zaM zz.fn hl (x:=l) hc (args:=cargs) (by
   have:RL ⟨w,pr,fun _=>none⟩ [.list (l.map (enc .Mrk))] cargs.toList:=RL.noLoc _ _ (by simp only [V.noLocL,V.noLoc,Bool.and_true]; exact yH (Z4 .Mrk) l) hargs'
   exact this)).mono ?_
  rintro e W' ⟨v,pr',rfl,hr,hb⟩
  change R _ (.tup [.int .i64 c.1,.int .i64 c.2]) v at hr
  simp only [R,RL] at hr
  obtain ⟨xs,rfl,y,ys,rfl,rfl,y2,ys2,rfl,rfl,rfl⟩:=hr
  exact ⟨rfl,hb⟩
 simp only [RL,R] at hargs'
 obtain ⟨y,ys,e,⟨base,cap,rfl,hle,hm,hrow⟩,rfl⟩:=hargs'
 have hca:cargs = #[.slice base (l.map (enc .Mrk)).length cap]:=by rw [<- Array.toList_inj]; exact e
 subst hca
 rw [List.length_map] at hle hcv ⊢
 have res:∀ (s:List UInt8 × Int),s.1.length <= 20000->∀ E,R E (zeR [.str,.i64] s) (.tuple #[.string ⟨s.1.toArray⟩,.int .i64 s.2]):=fun s hs E=>by
  show R E (.tup [.str s.1,.int .i64 s.2]) _
  simp only [R,RL]
  exact ⟨_,rfl,_,_,rfl,⟨rfl,by unfold maxLen; omega⟩,_,_,rfl,rfl,rfl⟩
 split at h
 case isFalse hc0 =>
  cases h
  refine (zjE w _ c.1 c.2 hc0 hcv).mono ?_
  rintro e W' ⟨rfl,hb⟩
  exact ⟨_,rfl,res ([],c.1) (by simp),hb⟩
 case isTrue hc0 =>
  have hcv':Calls Tryz.prog 42 #[.slice base l.length cap] w fun e W'=>(∃ n,e = .returned (.tuple #[.int .i64 0,.int .i64 n]))/\Below w.heap.size w W':=hcv.mono fun e W' ⟨h1,h2⟩=>⟨⟨c.2,by rw [h1,hc0]⟩,h2⟩
  by_cases hl0:l = []
  ·subst hl0
   simp only [txS,Option.some.injEq] at h
   subst h
   refine (zjF w base cap hcv').mono ?_
   rintro e W' ⟨rfl,hb⟩
   exact ⟨_,rfl,res ([],0) (by simp),hb⟩
  ·rcases hrow with ⟨h0,_⟩ | ⟨b,o,k,rfl,hrr⟩
   ·exact absurd (by simpa using h0) hl0
   have hpos:0 < l.length:=List.length_pos_iff.2 hl0
   have hk:k = 4:=by
    obtain ⟨y,q1,q2,_⟩:=hrr.get 0 (enc .Mrk l[0]) (by simp [hpos])
    have q1':R ⟨w,pr,lam⟩ (.agg [.int .i64 l[0].ID.Node,.int .u64 l[0].ID.Seq,.int .i64 l[0].ID.Off,.int .i64 l[0].Until]) y:=q1
    simp only [R] at q1'
    obtain ⟨xs,rfl,hxs,_⟩:=q1'
    have:=hxs.length
    simp [Value.cells] at q2 this
    omega
   subst hk
   have hcells:∀ (i:Nat) (x:Mrk),l[i]? = some x->∀ j z,([.int .i64 x.ID.Node,.int .u64 x.ID.Seq,.int .i64 x.ID.Off,.int .i64 x.Until]:List Value)[j]? = some z->w.cell? ⟨b,o + i * 4 + j,none⟩ = some z/\pr b (o + i * 4 + j):=fun i x hx j z hz=>by
    obtain ⟨y,q1,q2,q3⟩:=hrr.get i (enc .Mrk x) (by simp [hx])
    have q1':R ⟨w,pr,lam⟩ (.agg [.int .i64 x.ID.Node,.int .u64 x.ID.Seq,.int .i64 x.ID.Off,.int .i64 x.Until]) y:=q1
    simp only [R,RL] at q1'
    obtain ⟨xs,rfl,⟨y0,ys0,rfl,rfl,y1,ys1,rfl,rfl,y2,ys2,rfl,rfl,y3,ys3,rfl,rfl,rfl⟩,_⟩:=q1'
    exact (q3 j z (by simpa [Value.cells] using hz)).1
   have hbk:b < w.heap.size:=by
    have:=(hcells 0 l[0] (List.getElem?_eq_getElem hpos) 0 _ rfl).2
    exact hl.lt _ _ this
   have ho:zgX w b o l:=⟨hbk,fun i x hx=>⟨(hcells i x hx 0 _ rfl).1,(hcells i x hx 1 _ rfl).1,(hcells i x hx 2 _ rfl).1,(hcells i x hx 3 _ rfl).1⟩⟩
   refine (zle w b o cap l hlen ho yQ strconv_Itoa hcv' (fun x _ k hk W hb=>zqS hl hb hk) (fun x _ t ht W hb=>zoJ hl hb ht) r h).mono ?_
   rintro e W' ⟨rfl,hb⟩
   exact ⟨_,rfl,res r (znJ h (by simp)),hb⟩
noncomputable def y9.spec:ze Tryz.prog:=ze.t 14 [.d .l_Mrk] [.str,.i64] y9 (by kernel_rfl) y9.fn
end Go.Proofs.YtjcbpfhlgebgdaaGreatDoor
