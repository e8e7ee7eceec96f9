import Derived.Test.YtjcbpfhlgebgdaaDoorPLayB
import Derived.Test.YtjcbpfhlgebgdaaDoorXGPk
set_option linter.unusedSimpArgs false
set_option linter.unusedVariables false
namespace Go.Proofs.YtjcbpfhlgebgdaaDoor
open Go Go.Eng Go.RowKit Go.X Go.Seq Go.Shelf
theorem ws_extra:Go.Proofs.Builder.Extra Tryd.prog Tryd.wsI_ren where
 sizeBuilder:=by kernel_rfl
 liesBuilder:=by kernel_rfl
 t5:=Tryd.underlying5
 a5:=Tryd.isAgg5
 z5:=Tryd.sizeOf5
 v5:=Tryd.zeroValue5
 infoByte:=by kernel_rfl
 cellsByte:=by kernel_rfl
 sizeByte:=by kernel_rfl
 neB5:=by decide
def oAgg (x:Outc):Value:=.agg #[.int .i64 x.Tick,.int .i64 x.Node,.int .i64 x.Kind,.int .i64 x.ID.Node,.int .u64 x.ID.Seq,.int .i64 x.ID.Off,.int .i64 x.Other]
def oCells (x:Outc):Obj:=.cells #[.int .i64 x.Tick,.int .i64 x.Node,.int .i64 x.Kind,.int .i64 x.ID.Node,.int .u64 x.ID.Seq,.int .i64 x.ID.Off,.int .i64 x.Other] 53 (0,0)
structure OutAt (w:World) (b o:Nat) (l:List Outc):Prop where
 lt:b < w.heap.size
 c:∀ (i:Nat) (x:Outc),l[i]? = some x→w.cell? ⟨b,o + i * 7,none⟩ = some (.int .i64 x.Tick)∧w.cell? ⟨b,o + i * 7 + 1,none⟩ = some (.int .i64 x.Node)∧w.cell? ⟨b,o + i * 7 + 2,none⟩ = some (.int .i64 x.Kind) ∧
  w.cell? ⟨b,o + i * 7 + 3,none⟩ = some (.int .i64 x.ID.Node)∧w.cell? ⟨b,o + i * 7 + 4,none⟩ = some (.int .u64 x.ID.Seq)∧w.cell? ⟨b,o + i * 7 + 5,none⟩ = some (.int .i64 x.ID.Off)∧w.cell? ⟨b,o + i * 7 + 6,none⟩ = some (.int .i64 x.Other)
theorem OutAt.more {w W:World} {b o:Nat} {l:List Outc} (h:OutAt w b o l) (hb:Below w.heap.size w W):OutAt W b o l :=
 ⟨Nat.lt_of_lt_of_le h.lt hb.size,fun i x hx=>by
  have e:∀ j,W.cell? ⟨b,j,none⟩ = w.cell? ⟨b,j,none⟩:=fun j=>hb.cell (p:=⟨b,j,none⟩) h.lt
  simp only [e]
  exact h.c i x hx⟩
def wdB (x:Word):List UInt8:=if x.Key = [] then x.Text else x.Key++[61]++x.Text
def lnB:Bool→List Word→List UInt8
 | _,[]=>[]
 | f,x :: xs=>(if f then [] else [32])++wdB x++lnB false xs
theorem lnB_snoc:∀ (ws:List Word) (f:Bool) (x:Word),lnB f (ws++[x]) = lnB f ws++((if f && ws.isEmpty then [] else [32])++wdB x)
 | [],f,x=>by cases f <;> simp [lnB]
 | y :: ws,f,x=>by
  simp only [List.cons_append,lnB,lnB_snoc ws false x]
  cases f <;> simp
theorem lnB_take:∀ (ws:List Word) (f:Bool) (k:Nat),(lnB f (ws.take k)).length ≤ (lnB f ws).length
 | [],f,k=>by simp
 | y :: ws,f,0=>by simp [lnB]
 | y :: ws,f,k + 1=>by
  have:=lnB_take ws false k
  simp only [List.take_succ_cons,lnB,List.length_append]
  omega
noncomputable def txF (g:Outc→Option (List Word)):List Outc→List UInt8→Option (List UInt8)
 | [],acc=>some acc
 | x :: xs,acc=>(g x).bind fun ws=>if ws ≠ []∧ws.length ≤ 1000∧(acc++lnB true ws++[10]).length ≤ 1000000000 then txF g xs (acc++lnB true ws++[10]) else none
def wCur (cur:Array Value) (ws:List Word):Prop:=∀ (i:Nat) (x:Word),ws[i]? = some x→cur[i * 3]? = some (.int .i64 x.At)∧cur[i * 3 + 1]? = some (.string ⟨x.Key.toArray⟩)∧cur[i * 3 + 2]? = some (.string ⟨x.Text.toArray⟩)
def RowAt (M:Nat) (v:Value) (ws:List Word) (W:World):Prop:=∃ g cap cur,v = .slice (some ⟨g,0,none⟩) ws.length cap∧M ≤ g∧W.heap[g]? = some (.cells cur 101 (0,0))∧wCur cur ws
structure TI (N:Nat) (w1:World) (acc:List UInt8) (W:World):Prop where
 isb:Lib.IsBuilderF 115 5 N N (Lib.byteCells acc) W
 bel:Below N w1 W
 sz:N + 1 ≤ W.heap.size
theorem TI.alloc {N:Nat} {w1 W:World} {acc:List UInt8} (h:TI N w1 acc W) (o:Obj):TI N w1 acc (W.alloc o) :=
 ⟨h.isb.alloc o,h.bel.alloc (by have:=h.sz; omega) o,by have:=h.sz; simp; omega⟩
theorem TI.put {N:Nat} {w1 W W':World} {acc acc':List UInt8} (h:TI N w1 acc W) (hb:Lib.BuilderAtF 115 5 N N (.pointer (some ⟨N,0,none⟩)) (Lib.byteCells acc') W') (hl:Below N W W'):TI N w1 acc' W' :=
 ⟨.inr hb,⟨hl.os.trans h.bel.os,hl.tape.trans h.bel.tape,hl.output.trans h.bel.output,Nat.le_trans h.bel.size hl.size,fun k hk=>(hl.block k hk).trans (h.bel.block k hk)⟩,hb.lt⟩
theorem isb_below {N:Nat} {bs:List Value} {A B:World} (h:Lib.IsBuilderF 115 5 N N bs A) (hf:Below A.heap.size A B):Lib.IsBuilderF 115 5 N N bs B:=by
 have key:∀ p,Lib.BuilderAtF 115 5 N N p bs A→Lib.BuilderAtF 115 5 N N p bs B:=by
  rintro p ⟨h1,v,h2,⟨hl,h0 | ⟨g,cap,cur,fz,hv,hb,hg,r⟩⟩,h4⟩
  ·exact ⟨h1,v,(hf.block N (Array.getElem?_eq_some_iff.1 h2).1).trans h2,⟨hl,.inl h0⟩,h4⟩
  ·exact ⟨h1,v,(hf.block N (Array.getElem?_eq_some_iff.1 h2).1).trans h2,⟨hl,.inr ⟨g,cap,cur,fz,hv,hb,(hf.block g (Array.getElem?_eq_some_iff.1 hg).1).trans hg,r⟩⟩,h4⟩
 exact h.imp (key _) (key _)
theorem TI.below {N:Nat} {w1 W W':World} {acc:List UInt8} (h:TI N w1 acc W) (hl:Below W.heap.size W W'):TI N w1 acc W' :=
 ⟨isb_below h.isb hl,below_app h.bel (by have:=h.sz; omega) hl,Nat.le_trans h.sz hl.size⟩
theorem strCells_eq (t:List UInt8):Lib.strCells ⟨t.toArray⟩ = Lib.byteCells t:=by
 simp [Lib.strCells,Lib.byteCells]
theorem byteCells_app (a b:List UInt8):Lib.byteCells (a++b) = Lib.byteCells a++Lib.byteCells b:=by simp [Lib.byteCells]
def wObj (x:Word):Obj:=.cells #[.int .i64 x.At,.string ⟨x.Key.toArray⟩,.string ⟨x.Text.toArray⟩] 101 (0,0)
theorem wObj_cells {W:World} {M:Nat} {x:Word} (h:W.heap[M]? = some (wObj x)):W.cell? ⟨M,0,none⟩ = some (.int .i64 x.At)∧W.cell? ⟨M,1,none⟩ = some (.string ⟨x.Key.toArray⟩)∧W.cell? ⟨M,2,none⟩ = some (.string ⟨x.Text.toArray⟩):=by
 unfold wObj at h
 simp [World.cell?,h]
theorem cur_cells {W:World} {g:Nat} {cur:Array Value} {ws:List Word} (h:W.heap[g]? = some (.cells cur 101 (0,0))) (hc:wCur cur ws) {k:Nat} {x:Word} (hx:ws[k]? = some x) :
  W.cell? ⟨g,k * 3,none⟩ = some (.int .i64 x.At)∧W.cell? ⟨g,k * 3 + 1,none⟩ = some (.string ⟨x.Key.toArray⟩)∧W.cell? ⟨g,k * 3 + 2,none⟩ = some (.string ⟨x.Text.toArray⟩):=by
 simp only [World.cell?,h]
 exact hc k x hx
theorem after_put {N g M:Nat} {w1 W W':World} {A B:List UInt8} {cur:Array Value} {x:Word} (hti:TI N w1 A W) (hg:W.heap[g]? = some (.cells cur 101 (0,0))) (hN:N < g) (hM:W.heap[M]? = some (wObj x)) (hNM:N < M)
  (v1:Lib.BuilderAtF 115 5 N N (.pointer (some ⟨N,0,none⟩)) (Lib.byteCells A++Lib.byteCells B) W') (v2:Below N W W') (v3:Lib.OthersKept 5 (some N) W W') :
  TI N w1 (A++B) W'∧W'.heap[g]? = some (.cells cur 101 (0,0))∧W'.heap[M]? = some (wObj x) :=
 ⟨hti.put (by rw [byteCells_app]; exact v1) v2,v3 g _ hg (fun e=>by cases e; omega) (fun c fz e=>by cases e),v3 M _ hM (fun e=>by cases e; omega) (fun c fz e=>by cases e)⟩
theorem lt_c {k n:Nat} (h:k < n):(k:Int) < (n:Int):=by omega
theorem wr_c {k:Nat} (h:k ≤ 100000):wrap64 ((k:Int) + 1) = k + 1:=IntWalk.wrap64_in _ (by omega)
theorem pos_c {k:Nat} (h:¬ k = 0):(0:Int) < k:=by omega
theorem ti_lt {N:Nat} {w1 W:World} {acc:List UInt8} (h:TI N w1 acc W):N < W.heap.size:=h.sz
theorem ti_le {N:Nat} {w1 W:World} {acc:List UInt8} (h:TI N w1 acc W):N ≤ W.heap.size:=Nat.le_of_lt h.sz
theorem meas {k n:Nat} (h:k < n):((n:Int) - intOf (.int .i64 ((k:Int) + 1))).toNat < ((n:Int) - intOf (.int .i64 (k:Int))).toNat:=by simp only [intOf]; omega
theorem meas0 {n:Nat} (h:0 < n):((n:Int) - intOf (.int .i64 1)).toNat < ((n:Int) - intOf (.int .i64 0)).toNat:=by simp only [intOf]; omega
theorem eq_c {k n:Nat} (h:k ≤ n) (h2:¬ k < n):k = n:=by omega
theorem big_c {n:Nat} (h:20000 < n):(20000:Int) < (n:Int):=by omega
theorem nbig_c {n:Nat} (h:¬ 20000 < n):¬ (20000:Int) < (n:Int):=by omega
theorem lenW {A B:List UInt8} (h:(A++B++[10]).length ≤ 1000000000):(A++B).length + 1 ≤ 140737488355328:=by simp at h ⊢; omega
theorem below_N {N:Nat} {w W W':World} (h:Below w.heap.size w W) (hb:Below N W W') (hN:w.heap.size ≤ N):Below w.heap.size w W' :=
 ⟨hb.os.trans h.os,hb.tape.trans h.tape,hb.output.trans h.output,Nat.le_trans h.size hb.size,fun k hk=>(hb.block k (Nat.lt_of_lt_of_le hk hN)).trans (h.block k hk)⟩
theorem lenN {A t:List UInt8} (h:A.length + (([]:List UInt8).length + t.length) ≤ 1000000000):A.length + t.length ≤ 1000000000:=by simpa using h
theorem lenS {A t:List UInt8} (h:A.length + (([32]:List UInt8).length + t.length) ≤ 1000000000):(A++[32]).length + t.length ≤ 1000000000∧A.length + 1 ≤ 140737488355328:=by simp at h ⊢; omega
theorem lenT {A t:List UInt8} (h:A.length + t.length ≤ 1000000000):A.length + (⟨t.toArray⟩:ByteArray).size ≤ 140737488355328:=by
 have:(⟨t.toArray⟩:ByteArray).size = t.length:=List.size_toArray
 omega
theorem cat_61 (t:List UInt8) (s2:ByteArray) (h:s2.data = #[61]):(⟨t.toArray⟩:ByteArray)++s2 = ⟨(t++[61]).toArray⟩:=by
 apply ByteArray.ext
 simp [h]
theorem size_61 (t:List UInt8) (s2:ByteArray) (h:s2.data = #[61]):((⟨t.toArray⟩:ByteArray)++s2).size = t.length + 1:=by
 rw [cat_61 t s2 h]; show (t++[61]).toArray.size = _; simp
theorem strCells_61 (t:List UInt8) (s2:ByteArray) (h:s2.data = #[61]):Lib.strCells ((⟨t.toArray⟩:ByteArray)++s2) = Lib.byteCells (t++[61]):=by
 rw [cat_61 t s2 h,strCells_eq]
theorem lenK {A k t:List UInt8} (h:A.length + (k++[61]++t).length ≤ 1000000000):A.length + (k.length + 1) ≤ 140737488355328∧(A++(k++[61])).length + (⟨t.toArray⟩:ByteArray).size ≤ 140737488355328∧k.length ≤ 1000000000:=by
 have h1:(⟨t.toArray⟩:ByteArray).size = t.length:=List.size_toArray
 simp only [List.length_append,List.length_cons,List.length_nil] at h ⊢
 omega
set_option maxRecDepth 20000 in
set_option maxHeartbeats 8000000 in
theorem text_in (w:World) (b o cap:Nat) (l:List Outc) (hl:l.length ≤ 100000) (ho:OutAt w b o l) (g:Outc→Option (List Word))
  (hV:Calls Tryd.prog 73 #[.slice (some ⟨b,o,none⟩) l.length cap] w fun e W'=>e = .returned (.int .i64 0)∧Below w.heap.size w W')
  (hR:∀ x ∈ l,∀ ws,g x = some ws→ws ≠ []→∀ W,Below w.heap.size w W→Calls Tryd.prog 74 #[oAgg x] W fun e W'=>∃ v,e = .returned v∧Below W.heap.size W W'∧RowAt W.heap.size v ws W')
  (s:List UInt8) (hs:txF g l [] = some s) :
  Calls Tryd.prog 21 #[.slice (some ⟨b,o,none⟩) l.length cap] w fun e W'=>e = .returned (if 20000 < s.length then .tuple #[.string ⟨#[]⟩,.int .i64 4] else .tuple #[.string ⟨s.toArray⟩,.int .i64 0])∧Below w.heap.size w W':=by
 have mixed:Tryd.prog.follows .mixedOrders = true:=by kernel_rfl
 go_enter Tryd.func21,Tryd.ntmps21
 go_wp2_with (go_at_call 73; refine hV.mono ?_; rintro e w1 ⟨rfl,x1⟩)
 obtain ⟨N,hN0⟩:∃ N,w1.heap.size = N:=⟨_,rfl⟩
 simp only [hN0]
 have hx1:w.heap.size ≤ w1.heap.size:=x1.size
 go_loopw [17] (fun v17 wr=>∃ (i:Nat) (acc:List UInt8),v17 = .int .i64 i∧i ≤ l.length∧txF g (l.drop i) acc = some s∧TI N w1 acc wr∧acc.length ≤ 1000000000)
  (fun v17 wr=>((l.length:Int) - intOf v17).toNat)
 case atStart =>
  have hsz:(w1.alloc (.cells #[.pointer none,.slice none 0 0] 115)).heap.size = N + 1:=by simp [hN0]
  exact ⟨0,[],rfl,Nat.zero_le _,by simpa using hs,⟨by rw [← hN0]; exact Lib.IsBuilderF.of (Lib.fresh_isBuilder _ _ _),(Below.refl _ _).alloc (by omega) _,by omega⟩,by simp⟩
 case round =>
  obtain ⟨i,acc,rfl,hi,hq,hti,hal⟩:=hrel
  have hww:Below w.heap.size w wr:=⟨hti.bel.os.trans x1.os,hti.bel.tape.trans x1.tape,hti.bel.output.trans x1.output,Nat.le_trans x1.size hti.bel.size,fun k hk=>(hti.bel.block k (by have:=x1.size; omega)).trans (x1.block k hk)⟩
  by_cases hil:i < l.length
  ·obtain ⟨x,hx⟩:∃ x,l[i]? = some x:=⟨l[i],List.getElem?_eq_getElem hil⟩
   have hdr:l.drop i = x :: l.drop (i + 1):=by
    rw [List.drop_eq_getElem_cons hil]
    congr 1
    rw [List.getElem?_eq_getElem hil] at hx
    exact Option.some.inj hx
   rw [hdr,txF] at hq
   obtain ⟨ws,hws,hq⟩:=bind_some hq
   split at hq
   case isFalse=>cases hq
   rename_i hg
   obtain ⟨hne,hwl,hlen⟩:=hg
   obtain ⟨c0,c1,c2,c3,c4,c5,c6⟩:=(ho.more hww).c i x hx
   have hxl:x ∈ l:=List.mem_of_getElem? hx
   have bl:(i:Int) < l.length:=lt_c hil
   have hcall:=hR x hxl ws hws hne (wr.alloc (oCells x)) (hww.alloc hww.size _)
   have wr1:wrap64 ((i:Int) + 1) = i + 1:=wr_c (Nat.le_trans hi hl)
   clear hR hV ho hs
   go_wp2_with (go_at_call 74; refine hcall.mono ?_; rintro e W1 ⟨v,rfl,y1,g1,cap1,cur,rfl,hg1,hg2,hcur⟩)
   have hti1:=(hti.alloc (oCells x)).below y1
   have hgN:N < g1:=by have:=hti.sz; simp at hg1; omega
   have hw1:0 < ws.length:=List.length_pos_iff.2 hne
   clear hcall hww c0 c1 c2 c3 c4 c5 c6 hg1 y1 hti
   go_loopw [24] (fun v24 W=>∃ (k:Nat),v24 = .int .i64 k∧k ≤ ws.length∧TI N w1 (acc++lnB true (ws.take k)) W∧W.heap[g1]? = some (.cells cur 101 (0,0)))
    (fun v24 W=>((ws.length:Int) - intOf v24).toNat)
   case atStart=>exact ⟨0,rfl,Nat.zero_le _,by simpa [lnB] using hti1,hg2⟩
   case round =>
    obtain ⟨k,rfl,hk,hti2,hgk⟩:=hrel
    by_cases hkl:k < ws.length
    ·obtain ⟨y,hy⟩:∃ y,ws[k]? = some y:=⟨ws[k],List.getElem?_eq_getElem hkl⟩
     obtain ⟨d0,d1,d2⟩:=cur_cells hgk hcur hy
     have hti3:=hti2.alloc (wObj y)
     have hM:(wr.alloc (wObj y)).heap[wr.heap.size]? = some (wObj y):=ahn _ _
     have hNM:N < wr.heap.size:=ti_lt hti2
     have hg3:(wr.alloc (wObj y)).heap[g1]? = some (.cells cur 101 (0,0)):=(Below.heap_alloc _ _ _ (Array.getElem?_eq_some_iff.1 hgk).1).trans hgk
     have bk:(k:Int) < ws.length:=lt_c hkl
     have wr2:wrap64 ((k:Int) + 1) = k + 1:=wr_c (Nat.le_trans hk (Nat.le_trans hwl (by decide)))
     have hln:(acc++lnB true (ws.take (k + 1))).length ≤ 1000000000:=by
      have:=lnB_take ws true (k + 1)
      simp only [List.length_append,List.length_cons,List.length_nil] at hlen ⊢
      omega
     have htk:lnB true (ws.take (k + 1)) = lnB true (ws.take k)++((if k = 0 then [] else [32])++wdB y):=by
      rw [List.take_add_one,hy]
      show lnB true (ws.take k++[y]) = _
      rw [lnB_snoc]
      congr 2
      cases k with
      | zero=>rfl
      | succ k =>
       cases ws with
       | nil=>simp at hkl
       | cons a ws=>simp
     have hln2:(acc++lnB true (ws.take k)).length + ((if k = 0 then [] else [32]:List UInt8).length + (wdB y).length) ≤ 1000000000:=by
      rw [htk] at hln
      simpa only [List.length_append,Nat.add_assoc] using hln
     clear hln
     by_cases hk0:k = 0
     ·subst hk0
      rw [Nat.zero_mul,Nat.zero_add] at d1 d2
      rw [Nat.zero_mul] at d0
      have bk0:(0:Int) < ws.length:=lt_c hkl
      rw [if_pos rfl] at htk
      clear bk wr2 hk
      by_cases hky:y.Key = []
      ·obtain ⟨ya,yk,yt⟩:=y
       dsimp only at hky
       subst hky
       have hln:=hln2
       rw [if_pos rfl,wdB,if_pos rfl] at hln
       have hT:=lenT (lenN hln)
       clear hgk hq hlen hwl hal hti2 hti1 hg2 bl wr1 hi hil hx hdr hxl hws x1
       go_wp2_with (go_at_call 76; refine Calls.mono (Any.Builder_WriteString_k Tryd.wsI ws_extra N N _ _ (wr.alloc _) hti3.isb (by rw [Lib.byteCells_length]; exact hT) (ti_le hti3)) ?_; rintro e W4 ⟨rfl,v1,v2,v3⟩; rw [strCells_eq] at v1; obtain ⟨hti4,hg4,hM4⟩:=after_put hti3 hg3 hgN hM hNM (B:=yt) v1 v2 v3; obtain ⟨m0,m1,m2⟩:=wObj_cells hM4; clear v1 v2 v3)
       go_wp2
       go_roundw
       case rel=>exact ⟨1,by first | rfl | simp,hkl,by rw [htk]; simpa [wdB,List.append_assoc] using hti4,hg4⟩
       case measure=>first | exact meas0 hkl | (simp only [intOf]; simp; omega)
      ·have hkb:(y.Key == ([]:List UInt8)) = false:=by simpa using hky
       have hln:=hln2
       rw [if_pos rfl,wdB,if_neg hky] at hln
       obtain ⟨hK,hT,hyk⟩:=lenK (lenN hln)
       clear hgk hq hlen hwl hal hti2 hti1 hg2 bl wr1 hi hil hx hdr hxl hws x1
       go_wp2_with (go_at_call 76; refine Calls.mono (Any.Builder_WriteString_k Tryd.wsI ws_extra N N _ _ (wr.alloc _) hti3.isb (by rw [Lib.byteCells_length,size_61 _ _ rfl]; exact hK) (ti_le hti3)) ?_; rintro e W4 ⟨rfl,v1,v2,v3⟩; rw [strCells_61 _ _ rfl] at v1; obtain ⟨hti4,hg4,hM4⟩:=after_put hti3 hg3 hgN hM hNM (B:=(y.Key++[61])) v1 v2 v3; obtain ⟨m0,m1,m2⟩:=wObj_cells hM4; clear v1 v2 v3)
       go_wp2_with (go_at_call 76; refine Calls.mono (Any.Builder_WriteString_k Tryd.wsI ws_extra N N _ _ W4 hti4.isb (by rw [Lib.byteCells_length]; exact hT) (ti_le hti4)) ?_; rintro e W5 ⟨rfl,v1,v2,v3⟩; rw [strCells_eq] at v1; obtain ⟨hti5,hg5,hM5⟩:=after_put hti4 hg4 hgN hM4 hNM (B:=y.Text) v1 v2 v3; obtain ⟨m0,m1,m2⟩:=wObj_cells hM5; clear v1 v2 v3)
       go_wp2
       go_roundw
       case rel=>exact ⟨1,by first | rfl | simp,hkl,by rw [htk]; simpa [wdB,hky,List.append_assoc] using hti5,hg5⟩
       case measure=>first | exact meas0 hkl | (simp only [intOf]; simp; omega)
     ·have hkp:(0:Int) < k:=pos_c hk0
      by_cases hky:y.Key = []
      ·obtain ⟨ya,yk,yt⟩:=y
       dsimp only at hky
       subst hky
       have hln:=hln2
       rw [if_neg hk0,wdB,if_pos rfl] at hln
       obtain ⟨hS,hW⟩:=lenS hln
       have hT:=lenT hS
       clear hgk hq hlen hwl hal hti2 hti1 hg2 bl wr1 hi hil hx hdr hxl hws x1
       go_wp2_with (go_at_call 75; refine (Any.Builder_WriteByte_k Tryd.wbI wb_extra N N _ 32 _ hti3.isb (by rw [Lib.byteCells_length]; exact hW) (ti_le hti3)).mono ?_; rintro e W2 ⟨rfl,v1,v2,v3⟩; obtain ⟨hti4,hg4,hM4⟩:=after_put hti3 hg3 hgN hM hNM (B:=[32]) v1 v2 v3; obtain ⟨m0,m1,m2⟩:=wObj_cells hM4; clear v1 v2 v3)
       go_wp2_with (go_at_call 76; refine Calls.mono (Any.Builder_WriteString_k Tryd.wsI ws_extra N N _ _ W2 hti4.isb (by rw [Lib.byteCells_length]; exact hT) (ti_le hti4)) ?_; rintro e W5 ⟨rfl,v1,v2,v3⟩; rw [strCells_eq] at v1; obtain ⟨hti5,hg5,hM5⟩:=after_put hti4 hg4 hgN hM4 hNM (B:=yt) v1 v2 v3; obtain ⟨m0,m1,m2⟩:=wObj_cells hM5; clear v1 v2 v3)
       go_wp2
       go_roundw
       case rel=>exact ⟨k + 1,by first | simpa using wr2 | simp,hkl,by rw [htk]; simpa [wdB,hk0,List.append_assoc] using hti5,hg5⟩
       case measure=>first | exact meas hkl | (rw [wr2]; exact meas hkl)
      ·have hkb:(y.Key == ([]:List UInt8)) = false:=by simpa using hky
       have hln:=hln2
       rw [if_neg hk0,wdB,if_neg hky] at hln
       obtain ⟨hS,hW⟩:=lenS hln
       obtain ⟨hK,hT,hyk⟩:=lenK hS
       clear hgk hq hlen hwl hal hti2 hti1 hg2 bl wr1 hi hil hx hdr hxl hws x1
       go_wp2_with (go_at_call 75; refine (Any.Builder_WriteByte_k Tryd.wbI wb_extra N N _ 32 _ hti3.isb (by rw [Lib.byteCells_length]; exact hW) (ti_le hti3)).mono ?_; rintro e W2 ⟨rfl,v1,v2,v3⟩; obtain ⟨hti4,hg4,hM4⟩:=after_put hti3 hg3 hgN hM hNM (B:=[32]) v1 v2 v3; obtain ⟨m0,m1,m2⟩:=wObj_cells hM4; clear v1 v2 v3)
       go_wp2_with (go_at_call 76; refine Calls.mono (Any.Builder_WriteString_k Tryd.wsI ws_extra N N _ _ W2 hti4.isb (by rw [Lib.byteCells_length,size_61 _ _ rfl]; exact hK) (ti_le hti4)) ?_; rintro e W5 ⟨rfl,v1,v2,v3⟩; rw [strCells_61 _ _ rfl] at v1; obtain ⟨hti5,hg5,hM5⟩:=after_put hti4 hg4 hgN hM4 hNM (B:=(y.Key++[61])) v1 v2 v3; obtain ⟨m0,m1,m2⟩:=wObj_cells hM5; clear v1 v2 v3)
       go_wp2_with (go_at_call 76; refine Calls.mono (Any.Builder_WriteString_k Tryd.wsI ws_extra N N _ _ W5 hti5.isb (by rw [Lib.byteCells_length]; exact hT) (ti_le hti5)) ?_; rintro e W6 ⟨rfl,v1,v2,v3⟩; rw [strCells_eq] at v1; obtain ⟨hti6,hg6,hM6⟩:=after_put hti5 hg5 hgN hM5 hNM (B:=y.Text) v1 v2 v3; obtain ⟨m0,m1,m2⟩:=wObj_cells hM6; clear v1 v2 v3)
       go_wp2
       go_roundw
       case rel=>exact ⟨k + 1,by first | simpa using wr2 | simp,hkl,by rw [htk]; simpa [wdB,hky,hk0,List.append_assoc] using hti6,hg6⟩
       case measure=>first | exact meas hkl | (rw [wr2]; exact meas hkl)
    ·obtain rfl:k = ws.length:=eq_c hk hkl
     rw [List.take_length] at hti2
     have hW:(acc++lnB true ws).length + 1 ≤ 140737488355328:=lenW hlen
     clear hkl hk hgk hti1 hg2 hal hx hdr hxl hws x1 hcur hgN
     go_wp2_with (go_at_call 75; refine (Any.Builder_WriteByte_k Tryd.wbI wb_extra N N _ 10 _ hti2.isb (by rw [Lib.byteCells_length]; exact hW) (ti_le hti2)).mono ?_; rintro e W2 ⟨rfl,v1,v2,v3⟩; have hti4:=hti2.put (acc':=acc++lnB true ws++[10]) (by rw [byteCells_app]; exact v1) v2; clear v1 v2 v3)
     go_roundw
     case rel=>exact ⟨i + 1,acc++lnB true ws++[10],by simp,hil,hq,hti4,hlen⟩
     case measure=>first | exact meas hil | (rw [wr1]; exact meas hil)
  ·obtain rfl:i = l.length:=eq_c hi hil
   rw [List.drop_length,txF] at hq
   cases hq
   clear hR hV ho hs x1 hi hil
   by_cases h20:20000 < s.length
   ·have h20':(20000:Int) < (s.length:Int):=big_c h20
    go_wp2_with (go_at_call 77; refine (Any.Builder_Len_f Tryd.lnI N N _ _ hti.isb).mono ?_; rintro e W2 ⟨rfl,rfl⟩; rw [Lib.byteCells_length])
    go_ret2
    exact ⟨rfl,hww⟩
   ·have h20':¬ (20000:Int) < (s.length:Int):=nbig_c h20
    go_wp2_with (first
     | (go_at_call 77; refine (Any.Builder_Len_f Tryd.lnI N N _ _ hti.isb).mono ?_; rintro e W2 ⟨rfl,rfl⟩; rw [Lib.byteCells_length])
     | (go_at_call 78; refine (Any.Builder_String_any_k Tryd.bsI sb_extra N N s _ hti.isb (ti_le hti)).mono ?_; rintro e W3 ⟨rfl,v1,v2,v3⟩))
    go_ret2
    exact ⟨rfl,below_N hww v2 (by rw [← hN0]; exact hx1)⟩
end Go.Proofs.YtjcbpfhlgebgdaaDoor
