import Derived.Test.YtjcbpfhlgebgdaaDoorXQd
import Derived.Test.YtjcbpfhlgebgdaaDoorRoW
set_option linter.unusedSimpArgs false
set_option linter.unusedVariables false
namespace Go.Proofs.YtjcbpfhlgebgdaaDoor
open Go Go.Eng Go.RowKit Go.X Go.Seq
theorem hl_bel {w W:World} {pr:Nat→Nat→Prop} (h:HL w pr) (hb:Below w.heap.size w W):HL W pr :=
 ⟨fun b o hp=>Nat.lt_of_lt_of_le (h.lt b o hp) hb.size,fun g vs hg=>by
  obtain ⟨⟨ty,h1⟩,h2⟩:=h.glob g vs hg
  exact ⟨⟨ty,(hb.block g (Array.getElem?_eq_some_iff.1 h1).1).trans h1⟩,h2⟩⟩
theorem str_call {f:FuncId} {g:List UInt8→Option Bool} (hg:FnT Tryd.prog f [.d .str] [.bool] g) {W:World} {pr:Nat→Nat→Prop} (hl:HL W pr) {l:List UInt8} (hle:l.length ≤ maxLen) {b:Bool} (h:g l = some b) :
  Calls Tryd.prog f #[.string ⟨l.toArray⟩] W fun e W'=>e = .returned (.bool b)∧Below W.heap.size W W':=by
 have hfn:=hg _ _ h W pr (fun _=>none) #[.string ⟨l.toArray⟩] hl (by
  simp only [buildA,reflC,dataOf,refl,refl_str,toVL,toV,RL,R]
  exact ⟨_,_,rfl,⟨rfl,hle⟩,rfl⟩) (fun i B h=>by simp at h) (fun i j b h=>by cases h) (fun _ _=>rfl)
 refine hfn.mono ?_
 rintro en W' ⟨v,pr',rfl,hr,_,hk⟩
 refine ⟨?_,⟨hk.os,hk.tape,hk.output,hk.size,fun k h=>hk.block k h (fun i e=>by cases e)⟩⟩
 change R _ (.bool b) v at hr
 simp only [R] at hr
 rw [hr]
noncomputable def bareF (l:List UInt8):Option Bool:=if l.length ≤ 1000000 then words_bare l else none
noncomputable def nameF (l:List UInt8):Option Bool:=if l.length ≤ 1000000 then words_Name l else none
noncomputable def qdF (S:ByteArray) (p:Int):Option ((List UInt8 × Bool) × Int):=(words_scanner_quoted () ⟨S.data.toList,p⟩).map fun r=>(r.1,r.2.pos)
noncomputable def bdF (S:ByteArray) (p:Int):Option ((List UInt8 × Bool) × Int):=if 0 ≤ p∧p ≤ (S.size:Int) then bodyF S (qdF S) bareF p else none
noncomputable def wdF (S:ByteArray) (p:Int):Option ((Wd × Bool) × Int):=if 0 ≤ p∧p ≤ (S.size:Int) then wordF S nameF (bdF S) p else none
theorem ba_eta (S:ByteArray):(⟨S.data.toList.toArray⟩:ByteArray) = S:=by cases S; simp
theorem raw_more {S:ByteArray} {W:World} {s:Nat} {p:Int} (h:Bx s S W p):Calls Tryd.prog 161 #[.pointer (some ⟨s,0,none⟩)] W fun e W'=>e = .returned (.bool (decide (p < (S.size:Int))))∧Bx s S W' p∧Fr s W W':=by
 refine (more_q s S W p h).mono ?_
 rintro e W' ⟨rfl,m,rfl⟩
 exact ⟨rfl,h,Fr.drewN _ _ _⟩
theorem raw_quoted {S:ByteArray} (hS:S.size ≤ 1000000) {W:World} {pr:Nat→Nat→Prop} (hl:HL W pr) {s:Nat} (hs:∀ o,¬ pr s o) {p:Int} (h:Bx s S W p) {r:List UInt8 × Bool} {p':Int} (hq:qdF S p = some (r,p')) :
  Calls Tryd.prog 207 #[.pointer (some ⟨s,0,none⟩)] W fun e W'=>e = .returned (.tuple #[.string ⟨r.1.toArray⟩,.bool r.2])∧Bx s S W' p'∧Fr s W W':=by
 unfold qdF at hq
 cases hg:words_scanner_quoted () ⟨S.data.toList,p⟩ with
 | none=>rw [hg] at hq; cases hq
 | some t =>
 obtain ⟨r1,y⟩:=t
 rw [hg] at hq
 simp only [Option.map_some,Option.some.injEq,Prod.mk.injEq] at hq
 obtain ⟨rfl,rfl⟩:=hq
 have hys:y.s = S.data.toList:=by
  unfold words_scanner_quoted at hg
  split at hg
  ·obtain ⟨z,_,hz⟩:=Option.map_eq_some_iff.1 hg
   cases hz; rfl
  ·cases hg
 have hl2:S.data.toList.length = S.size:=Array.length_toList
 refine (sc_call words_scanner_quoted.fn hl hs (S:=S.data.toList) (by unfold maxLen; omega) (by rw [ba_eta]; exact h) hg).mono ?_
 rintro e W' ⟨v,E,rfl,hr,h1,h2⟩
 rw [hys,ba_eta] at h1
 refine ⟨?_,h1,h2⟩
 have hr':R E (.tup [.str r1.1,.bool r1.2]) v:=hr
 simp only [R,RL] at hr'
 obtain ⟨xs,rfl,y,ys,rfl,⟨rfl,_⟩,y2,ys2,rfl,rfl,rfl⟩:=hr'
 rfl
theorem qF_ge {len:Int} {nx:Int→Option (Int × Int)} {es:Int→Option ((Int × Bool) × Int)} (hn:∀ p c p',p < len→nx p = some (c,p')→p < p') (he:∀ p c p',es p = some (c,p')→p ≤ p') :
  ∀ {k:Nat} {acc:List UInt8} {p:Int} {r:List UInt8 × Bool} {q:Int},qF len nx es k acc p = some (r,q)→p ≤ q
 | 0,acc,p,r,q,h=>by cases h
 | k + 1,acc,p,r,q,h=>by
  unfold qF at h
  split at h
  ·rename_i hp
   obtain ⟨⟨c,p1⟩,h1,h⟩:=bind_some h
   have g1:=hn _ _ _ hp h1
   dsimp only at h
   split at h
   ·cases h; omega
   ·split at h
    ·obtain ⟨⟨e,p2⟩,h2,h⟩:=bind_some h
     have g2:=he _ _ _ h2
     dsimp only at h
     split at h
     ·have:=qF_ge hn he h; omega
     ·cases h; omega
    ·split at h
     ·have:=qF_ge hn he h; omega
     ·cases h; omega
  ·cases h; omega
theorem qdF_ge {S:ByteArray} {p:Int} {r:List UInt8 × Bool} {q:Int} (h:qdF S p = some (r,q)):p ≤ q∧r.1.length ≤ S.size + 1:=by
 unfold qdF at h
 cases hg:words_scanner_quoted () ⟨S.data.toList,p⟩ with
 | none=>rw [hg] at h; cases h
 | some t =>
 rw [hg] at h
 simp only [Option.map_some,Option.some.injEq,Prod.mk.injEq] at h
 unfold words_scanner_quoted at hg
 split at hg
 ·rename_i hx
  obtain ⟨⟨⟨a,ok⟩,q1⟩,hz,rfl⟩:=Option.map_eq_some_iff.1 hg
  obtain ⟨rfl,rfl⟩:=h
  have hl2:S.data.toList.length = S.size:=Array.length_toList
  refine ⟨?_,by have:=qF_acc hz; simp at this ⊢; omega⟩
  refine qF_ge (fun p c p' hp hn=>?_) (fun p c p' hn=>?_) hz
  ·unfold nxF at hn
   cases hg:words_scanner_next () ⟨S.data.toList,p⟩ with
   | none=>rw [hg] at hn; cases hn
   | some t =>
    rw [hg] at hn
    cases hn
    have:=(next_eq hg).2
    dsimp only at hp
    omega
  ·unfold esF at hn
   split at hn
   ·rename_i hle
    cases hg:words_scanner_escape () ⟨S.data.toList,p⟩ with
    | none=>rw [hg] at hn; cases hn
    | some t =>
     rw [hg] at hn
     cases hn
     exact (esc_eq (c:=t.1.1) (b:=t.1.2) (y:=t.2) hg hle).2.1
   ·cases hn
 ·cases hg
theorem bare_nil:bareF [] ≠ some true:=by
 intro h
 unfold bareF at h
 rw [if_pos (by simp)] at h
 unfold words_bare at h
 obtain ⟨z,hz,h⟩:=bind_some h
 rw [iter_eq] at hz
 have hz':some (Sum.inr ()) = some z:=hz
 cases hz'
 cases h
theorem bdF_ge {S:ByteArray} {p:Int} {r:List UInt8 × Bool} {q:Int} (h:bdF S p = some (r,q)):0 ≤ p∧p ≤ q∧(r.2 = true→p < q)∧r.1.length ≤ S.size + 1:=by
 unfold bdF at h
 split at h
 case isFalse=>cases h
 rename_i hp
 unfold bodyF at h
 split at h
 ·have:=qdF_ge h
  exact ⟨hp.1,by omega,fun _=>by omega,this.2⟩
 ·obtain ⟨b,hb,h⟩:=Option.map_eq_some_iff.1 h
  cases h
  have hl2:S.data.toList.length = S.size:=Array.length_toList
  refine ⟨hp.1,by omega,fun hr=>?_,by simp only [List.length_take,List.length_drop]; omega⟩
  have hr':b = true:=hr
  subst hr'
  rcases Nat.eq_zero_or_pos (scanL (S.data.toList.drop p.toNat)) with h0 | h0
  ·rw [h0,List.take_zero] at hb
   exact absurd hb bare_nil
  ·omega
theorem wordF_open {S:ByteArray} {p:Int} {r:Wd × Bool} {q:Int} (h:wdF S p = some (r,q)):0 ≤ p∧p ≤ (S.size:Int)∧r.1.1 = p∧r.1.2.1.length ≤ S.size + 1∧∃ p1 t,p ≤ p1∧bdF S p1 = some (t,q)∧r.1.2.2 = t.1∧(r.2 = true→t.2 = true):=by
 unfold wdF at h
 split at h
 case isFalse=>cases h
 rename_i hp
 have hl2:S.data.toList.length = S.size:=Array.length_toList
 refine ⟨hp.1,hp.2,?_⟩
 have fin:∀ (k:List UInt8) (p1:Int),k.length ≤ S.size + 1→p ≤ p1→((bdF S p1).bind fun r=>some (((p,k,r.1.1),r.1.2 && (decide ((S.size:Int) ≤ r.2) || decide (S.data[r.2.toNat]? = some 32))),r.2)) = some (r,q) →
   r.1.1 = p∧r.1.2.1.length ≤ S.size + 1∧∃ p1 t,p ≤ p1∧bdF S p1 = some (t,q)∧r.1.2.2 = t.1∧(r.2 = true→t.2 = true):=fun k p1 hk hp1 h=>by
  obtain ⟨⟨t,q1⟩,h1,h⟩:=bind_some h
  cases h
  exact ⟨rfl,hk,p1,t,hp1,h1,rfl,fun h=>by simp at h; exact h.1⟩
 unfold wordF at h
 split at h
 ·rename_i hi
  obtain ⟨b,_,h⟩:=bind_some h
  split at h
  ·exact fin _ _ (by simp only [List.length_take,List.length_drop]; omega) (by omega) h
  ·exact fin _ _ (by simp) (Int.le_refl _) h
 ·exact fin _ _ (by simp) (Int.le_refl _) h
theorem wdF_at {S:ByteArray} {p:Int} {r:Wd × Bool} {q:Int} (h:wdF S p = some (r,q)):r.1.1 = p:=(wordF_open h).2.2.1
theorem wdF_lt {S:ByteArray} {p:Int} {r:Wd} {q:Int} (h:wdF S p = some ((r,true),q)) (_:0 ≤ p):p < q:=by
 obtain ⟨_,_,_,_,p1,t,h1,h2,_,h3⟩:=wordF_open h
 have:=(bdF_ge h2).2.2.1 (h3 rfl)
 omega
theorem wdF_len {S:ByteArray} {p:Int} {r:Wd × Bool} {q:Int} (h:wdF S p = some (r,q)):r.1.2.1.length ≤ S.size + 1∧r.1.2.2.length ≤ S.size + 1:=by
 obtain ⟨_,_,_,h0,p1,t,h1,h2,h3,_⟩:=wordF_open h
 exact ⟨h0,by rw [h3]; exact (bdF_ge h2).2.2.2⟩
theorem raw_word {w:World} {pr:Nat→Nat→Prop} (hl:HL w pr) {S:ByteArray} {W:World} {s:Nat} {p:Int} {r:Wd × Bool} {p':Int} (hS:S.size ≤ 1000) (hs:w.heap.size ≤ s) (hb:Below w.heap.size w W) (hx:Bx s S W p) (h:wdF S p = some (r,p')) :
  Calls Tryd.prog 162 #[.pointer (some ⟨s,0,none⟩)] W fun e W'=>e = .returned (.tuple (encW r))∧Bx s S W' p'∧Fr s W W':=by
 have hsp:∀ o,¬ pr s o:=fun o ho=>by have:=hl.lt s o ho; omega
 have hlW:=hl_bel hl hb
 have hl2:S.data.toList.length = S.size:=Array.length_toList
 unfold wdF at h
 split at h
 case isFalse=>cases h
 rename_i hp
 refine word_in s S (by omega) nameF (bdF S) W ?_ ?_ ?_ p hp hx r p' h
 ·intro W1 p1 r1 q1 hf hb1 hd
  have hd':=hd
  unfold bdF at hd
  split at hd
  case isFalse=>cases hd
  rename_i hp1
  refine body_in s S (by omega) (qdF S) bareF W1 ?_ ?_ p1 hp1 hb1 r1 q1 hd
  ·intro W2 p2 r2 q2 hf2 hb2 hq
   exact raw_quoted (by omega) (hl_fr (hl_fr hlW hf hsp) hf2 hsp) hsp hb2 hq
  ·intro W2 l b hf2 hbb
   unfold bareF at hbb
   split at hbb
   ·exact str_call words_bare.fn (hl_fr (hl_fr hlW hf hsp) hf2 hsp) (by unfold maxLen; omega) hbb
   ·cases hbb
 ·intro W1 l b hf hnm
  unfold nameF at hnm
  split at hnm
  ·exact str_call words_Name.fn (hl_fr hlW hf hsp) (by unfold maxLen; omega) hnm
  ·cases hnm
 ·intro p1 r1 q1 h1 h0
  have:=bdF_ge h1
  omega
theorem wsF_mem {S:ByteArray} {wd:Int→Option ((Wd × Bool) × Int)} {Q:Wd→Prop} (hQ:∀ p r q,wd p = some (r,q)→Q r.1):∀ {k:Nat} {p:Int} {xs:List (Wd × Bool)},wsF S wd k p = some xs→∀ x ∈ xs,Q x.1
 | 0,p,xs,h=>by cases h
 | k + 1,p,xs,h=>by
  rw [wsF] at h
  split at h
  ·obtain ⟨c,_,h⟩:=bind_some h
   split at h
   ·exact wsF_mem hQ h
   ·split at h
    ·cases h; intro x hx; cases hx
    ·obtain ⟨r,hr,h⟩:=bind_some h
     split at h
     ·obtain ⟨tl,h1,rfl⟩:=Option.map_eq_some_iff.1 h
      intro x hx
      rcases List.mem_cons.1 hx with rfl | hx
      ·exact hQ _ _ _ hr
      ·exact wsF_mem hQ h1 x hx
     ·cases h
      intro x hx
      rcases List.mem_cons.1 hx with rfl | hx
      ·exact hQ _ _ _ hr
      ·cases hx
  ·cases h; intro x hx; cases hx
theorem rowsF_mem {wsL:List UInt8→Option (List (Wd × Bool))} {Q:Wd→Prop} (hQ:∀ p ws x a,p.length ≤ 1000→wsL p = some ws→x ∈ ws→Q (shW a x.1)) :
  ∀ {ps:List (List UInt8)} {o out:List (Int × List Wd)} {a e1 e2:Int},(∀ r ∈ o,∀ x ∈ r.2,Q x)→rowsF wsL ps o a = some (out,e1,e2)→∀ r ∈ out,∀ x ∈ r.2,Q x
 | [],o,out,a,e1,e2,ho,h=>by cases h; exact ho
 | p :: ps,o,out,a,e1,e2,ho,h=>by
  rw [rowsF] at h
  split at h
  ·cases h; intro r hr; cases hr
  ·rename_i hp
   obtain ⟨ws,hws,h⟩:=bind_some h
   split at h
   ·cases h; intro r hr; cases hr
   ·refine rowsF_mem hQ ?_ h
    split
    ·exact ho
    ·intro r hr x hx
     rcases List.mem_append.1 hr with hr | hr
     ·exact ho r hr x hx
     ·simp only [List.mem_singleton] at hr
      subst hr
      obtain ⟨y,hy,rfl⟩:=List.mem_map.1 hx
      exact hQ p ws y a (by omega) hws hy
def mkRow (r:Int × List Wd):Row:=⟨r.1,r.2.map fun x=>⟨x.1,x.2.1,x.2.2⟩⟩
noncomputable def lineF (l:List UInt8):Option (List (Wd × Bool)):=wsF (bsOf l) (wdF (bsOf l)) (l.length + 1) 0
noncomputable def words_Rows (s:List UInt8):Option (List Row × Fault) :=
 if 20000 < s.length then some ([],⟨4,20000⟩) else (rowsF lineF (pieces 10 s) [] 0).map fun r=>(r.1.map mkRow,⟨r.2.1,r.2.2⟩)
theorem cellsW_at:∀ {l:List Wd} {i:Nat} {x:Wd},l[i]? = some x→(Seq.cellsW l)[i * 3]? = some (.int .i64 x.1)∧(Seq.cellsW l)[i * 3 + 1]? = some (.string ⟨x.2.1.toArray⟩)∧(Seq.cellsW l)[i * 3 + 2]? = some (.string ⟨x.2.2.toArray⟩)
 | [],i,x,h=>by simp at h
 | y :: l,0,x,h=>by simp at h; subst h; simp [Seq.cellsW]
 | y :: l,i + 1,x,h=>by
  have:=cellsW_at (l:=l) (i:=i) (x:=x) (by simpa using h)
  have e:Seq.cellsW (y :: l) = .int .i64 y.1 :: .string ⟨y.2.1.toArray⟩ :: .string ⟨y.2.2.toArray⟩ :: Seq.cellsW l:=rfl
  rw [e]
  have e0:(i + 1) * 3 = i * 3 + 1 + 1 + 1:=by omega
  rw [e0]
  simpa using this
theorem cellsR_at:∀ {o:List (Int × List Wd)} {vs:List Value} {i:Nat} {a:Int} {ws:List Wd} {u:Value},o[i]? = some (a,ws)→vs[i]? = some u→(cellsR o vs)[i * 2]? = some (.int .i64 a)∧(cellsR o vs)[i * 2 + 1]? = some u
 | [],vs,i,a,ws,u,h,_=>by simp at h
 | y :: o,[],i,a,ws,u,_,h=>by simp at h
 | (b,x) :: o,v :: vs,0,a,ws,u,h,h2=>by simp at h h2; obtain ⟨rfl,rfl⟩:=h; subst h2; simp [cellsR]
 | (b,x) :: o,v :: vs,i + 1,a,ws,u,h,h2=>by
  have:=cellsR_at (o:=o) (vs:=vs) (i:=i) (a:=a) (ws:=ws) (u:=u) (by simpa using h) (by simpa using h2)
  have e:cellsR ((b,x) :: o) (v :: vs) = .int .i64 b :: v :: cellsR o vs:=rfl
  rw [e,show (i + 1) * 2 = i * 2 + 1 + 1 by omega]
  simpa using this
theorem own_R {E:Env} {W:World} {base:Nat} {e:TypeId} {size:Nat} {v:Value} {n:Nat} {xs:List Value} (h:W.ownsRow base e size v n xs) (hw:E.w = W) (hpr:∀ b o,base ≤ b→b < W.heap.size→E.pr b o) (rows:List V) (hn:rows.length = n)
  (hr:∀ (i:Nat) (r:V),rows[i]? = some r→∃ y:Value,R E r y∧y.cells.size = size∧∀ j z,y.cells[j]? = some z→xs[i * size + j]? = some z∧z.oneCell' = true):R E (.list rows) v:=by
 subst hn
 simp only [R]
 obtain ⟨hlen,⟨rfl,h0⟩ | ⟨g,cap,cur,rfl,hge,hh,hcap,hmax,hcs,htake⟩⟩:=h
 ·have:rows = []:=List.eq_nil_of_length_eq_zero h0
  subst this
  exact ⟨none,0,rfl,Nat.le_refl _,Nat.zero_le _,.inl ⟨rfl,rfl⟩⟩
 ·refine ⟨_,cap,rfl,hcap,hmax,.inr ⟨g,0,size,rfl,RR.of_get fun i r hi=>?_⟩⟩
  obtain ⟨y,h1,h2,h3⟩:=hr i r hi
  refine ⟨y,h1,h2,fun j z hz=>?_⟩
  obtain ⟨h4,h5⟩:=h3 j z hz
  refine ⟨⟨?_,hpr _ _ hge (Array.getElem?_eq_some_iff.1 hh).1⟩,h5⟩
  rw [hw]
  have hlt:i * size + j < rows.length * size:=by
   have:=(List.getElem?_eq_some_iff.1 h4).1
   omega
  rw [← htake,List.getElem?_take_of_lt hlt] at h4
  simp only [World.cell?,hh,Nat.zero_add]
  simpa using h4
set_option maxRecDepth 20000 in
set_option maxHeartbeats 8000000 in
theorem rows_long (S:ByteArray) (hS:20000 < S.size) (w:World) :
  Calls Tryd.prog 59 #[.string S] w fun en w'=>en = .returned (.tuple #[.slice none 0 0,.agg #[.int .i64 4,.int .i64 20000]])∧Below w.heap.size w w':=by
 refine (callsIn_wide (n:=5)).1 ?_
 refine callsIn_of_wp_marks Tryd.func59 rfl trivial ?_ rfl
 simp only [Tryd.ntmps59,List.size_toArray,List.length_cons,List.length_nil,Nat.reduceAdd,Nat.reduceSub,Array.replicate_succ,Array.replicate_zero,List.push_toArray,List.append_toArray,List.nil_append,List.cons_append]
 have mixed:Tryd.prog.follows .mixedOrders = true:=by kernel_rfl
 have hSi:(20000:Int) < (S.size:Int):=by omega
 gi_wp2
 refine ⟨.tuple #[.slice none 0 0,.agg #[.int .i64 4,.int .i64 20000]],?_,rfl,?_⟩
 ·simp [results,Tryd.f59,go_sem]
 ·exact ((Below.refl _ _).alloc (Nat.le_refl _) _).alloc (by simp) _
theorem words_Rows.fn:FnT Tryd.prog 59 [.d .str] [.l_Row,.Fault] words_Rows:=by
 intro (x:List UInt8) r h
 intro w pr lam cargs hl hargs _ _ _
 simp only [buildA,reflC,dataOf,refl,refl_str,toVL,toV,RL,R] at hargs
 obtain ⟨y,ys,e,⟨rfl,hs⟩,rfl⟩:=hargs
 have hc':cargs = #[.string ⟨x.toArray⟩]:=by rw [← Array.toList_inj]; simpa using e
 subst hc'
 have hsz:(⟨x.toArray⟩:ByteArray).size = x.length:=List.size_toArray
 have hF:∀ (E:Env) (a b:Int),R E (.agg [.int .i64 a,.int .i64 b]) (.agg #[.int .i64 a,.int .i64 b]):=fun E a b=>by
  simp only [R,RL]
  exact ⟨_,rfl,⟨_,_,rfl,rfl,_,_,rfl,rfl,rfl⟩,by simp [Value.oneCell']⟩
 unfold words_Rows at h
 split at h
 ·rename_i hlong
  cases h
  refine (rows_long ⟨x.toArray⟩ (by rw [hsz]; exact hlong) w).mono ?_
  rintro en w' ⟨rfl,hb⟩
  refine ⟨_,pr,rfl,?_,fun i B h=>by simp at h,⟨hb.os,hb.tape,hb.output,DLE.any _ _,hb.size,fun k hk _=>hb.block k hk,fun _ _ h=>h,fun _ _ h=>.inl h⟩⟩
  have hF':=hF ⟨w',pr,lam⟩ 4 20000
  show R _ (.tup [.list [],.agg [.int .i64 4,.int .i64 20000]]) _
  simp only [R,RL] at hF' ⊢
  exact ⟨_,rfl,_,_,rfl,⟨none,0,rfl,Nat.le_refl _,Nat.zero_le _,.inl (by simp)⟩,_,_,rfl,hF',rfl⟩
 ·rename_i hshort
  cases hq:rowsF lineF (pieces 10 x) [] 0 with
  | none=>rw [hq] at h; cases h
  | some t =>
  obtain ⟨out,e1,e2⟩:=t
  rw [hq] at h
  cases h
  have hmem:∀ r ∈ out,∀ y ∈ r.2,y.2.1.length ≤ 1001∧y.2.2.length ≤ 1001:=rowsF_mem (Q:=fun y=>y.2.1.length ≤ 1001∧y.2.2.length ≤ 1001) (fun p ws y a hp hws hy=>by
   have hbp:(bsOf p).size = p.length:=List.size_toArray
   exact wsF_mem (Q:=fun y=>y.2.1.length ≤ 1001∧y.2.2.length ≤ 1001) (fun p1 r q hr=>by have:=wdF_len hr; omega) hws y hy) (fun r hr=>by cases hr) hq
  refine (rows_in wdF ⟨x.toArray⟩ (by rw [hsz]; omega) w (fun L W s p _ _ hx=>raw_more hx) (fun L W s p r p' hL hs hb hx hr=>raw_word hl hL hs hb hx hr) (fun L p r p' hr h0=>wdF_lt hr h0) (fun L p r p' hr=>wdF_at hr) (out:=out) (e1:=e1) (e2:=e2) hq).mono ?_
  rintro en w' ⟨v,vs,rfl,hb,how,hlen,hrows⟩
  refine ⟨_,fun b o=>pr b o ∨ (w.heap.size ≤ b∧b < w'.heap.size),rfl,?_,fun i B h=>by simp at h,⟨hb.os,hb.tape,hb.output,DLE.any _ _,hb.size,fun k hk _=>hb.block k hk,fun _ _ h=>.inl h,fun _ _ h=>h⟩⟩
  show R _ (.tup [.list ((out.map mkRow).map enc_Row),.agg [.int .i64 e1,.int .i64 e2]]) _
  have hL:R ⟨w',fun b o=>pr b o ∨ (w.heap.size ≤ b∧b < w'.heap.size),lam⟩ (.list ((out.map mkRow).map enc_Row)) v:=by
   refine own_R how rfl (fun b o h1 h2=>Or.inr ⟨h1,h2⟩) _ (by simp) fun i r hi=>?_
   rw [List.map_map,List.getElem?_map] at hi
   cases ho:out[i]? with
   | none=>rw [ho] at hi; cases hi
   | some t =>
   obtain ⟨a,ws⟩:=t
   rw [ho] at hi
   cases hi
   have hil:i < out.length:=(List.getElem?_eq_some_iff.1 ho).1
   obtain ⟨u,hu⟩:∃ u,vs[i]? = some u:=⟨vs[i]'(by omega),List.getElem?_eq_getElem _⟩
   obtain ⟨c1,c2⟩:=cellsR_at ho hu
   have hwl:=hrows i a ws u ho hu
   have hRu:R ⟨w',fun b o=>pr b o ∨ (w.heap.size ≤ b∧b < w'.heap.size),lam⟩ (.list ((ws.map fun x=>(⟨x.1,x.2.1,x.2.2⟩:Word)).map enc_Word)) u:=by
    refine own_R hwl rfl (fun b o h1 h2=>Or.inr ⟨h1,h2⟩) _ (by simp) fun j r hj=>?_
    rw [List.map_map,List.getElem?_map] at hj
    cases hx:ws[j]? with
    | none=>rw [hx] at hj; cases hj
    | some t =>
    obtain ⟨p,k,q⟩:=t
    rw [hx] at hj
    cases hj
    obtain ⟨d1,d2,d3⟩:=cellsW_at hx
    have hm:=hmem (a,ws) (List.mem_of_getElem? ho) (p,k,q) (List.mem_of_getElem? hx)
    dsimp only at hm
    refine ⟨.agg #[.int .i64 p,.string ⟨k.toArray⟩,.string ⟨q.toArray⟩],?_,rfl,fun j' z hz=>?_⟩
    ·show R _ (.agg [.int .i64 p,.str k,.str q]) _
     simp only [R,RL]
     exact ⟨_,rfl,⟨_,_,rfl,rfl,_,_,rfl,⟨rfl,by unfold maxLen; omega⟩,_,_,rfl,⟨rfl,by unfold maxLen; omega⟩,rfl⟩,by simp [Value.oneCell']⟩
    ·match j',hz with
     | 0,hz=>simp [Value.cells] at hz; subst hz; exact ⟨d1,rfl⟩
     | 1,hz=>simp [Value.cells] at hz; subst hz; exact ⟨d2,rfl⟩
     | 2,hz=>simp [Value.cells] at hz; subst hz; exact ⟨d3,rfl⟩
     | j' + 3,hz=>simp [Value.cells] at hz
   obtain ⟨bu,cu,rfl⟩:=own_form hwl
   refine ⟨.agg #[.int .i64 a,.slice bu ws.length cu],?_,rfl,fun j z hz=>?_⟩
   ·show R _ (.agg [.int .i64 a,.list ((ws.map fun x=>(⟨x.1,x.2.1,x.2.2⟩:Word)).map enc_Word)]) _
    have hRu':=hRu
    rw [R]
    refine ⟨_,rfl,?_,by simp [Value.oneCell']⟩
    rw [RL]
    refine ⟨_,_,rfl,by simp only [R],?_⟩
    rw [RL]
    refine ⟨_,_,rfl,hRu',?_⟩
    rw [RL]
   ·match j,hz with
    | 0,hz=>simp [Value.cells] at hz; subst hz; exact ⟨c1,rfl⟩
    | 1,hz=>simp [Value.cells] at hz; subst hz; exact ⟨c2,rfl⟩
    | j + 2,hz=>simp [Value.cells] at hz
  have hF':=hF ⟨w',fun b o=>pr b o ∨ (w.heap.size ≤ b∧b < w'.heap.size),lam⟩ e1 e2
  rw [R]
  refine ⟨_,rfl,?_⟩
  rw [RL]
  refine ⟨_,_,rfl,hL,?_⟩
  rw [RL]
  refine ⟨_,_,rfl,hF',?_⟩
  rw [RL]
noncomputable def words_Rows.spec:XSpec Tryd.prog:=XSpec.t 59 [.d .str] [.l_Row,.Fault] words_Rows (by kernel_rfl) words_Rows.fn
end Go.Proofs.YtjcbpfhlgebgdaaDoor
