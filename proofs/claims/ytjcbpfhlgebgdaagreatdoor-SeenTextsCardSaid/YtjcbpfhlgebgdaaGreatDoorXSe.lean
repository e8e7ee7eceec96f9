import Derived.Test.YtjcbpfhlgebgdaaGreatDoorSP3
import Derived.Test.YtjcbpfhlgebgdaaGreatDoorXGSr
import Derived.Test.YtjcbpfhlgebgdaaGreatDoorXSt
set_option linter.unusedSimpArgs false
set_option linter.unusedVariables false
namespace Go.Proofs.YtjcbpfhlgebgdaaGreatDoor
open Go Go.Eng Go.RowKit Go.X Go.Seq Go.Shelf
theorem zqK {w:World} {pr:Nat->Nat->Prop} (hl:HL w pr) {x:List UInt8} {rows:List Row} {f:Fault} (h:Y9 x = some (rows,f)) :
  Calls Tryz.prog 29 #[.string ⟨x.toArray⟩] w fun en w'=>∃ (out:List (Int × List Wd)) (v:Value) (vs:List Value),rows = out.map zcu/\en = .returned (.tuple #[v,.agg #[.int .i64 f.Err,.int .i64 f.At]])/\Below w.heap.size w w' /\
   w'.ownsRow w.heap.size 72 2 v out.length (Ze out vs)/\vs.length = out.length/\∀ (i:Nat) (b:Int) (ws:List Wd) (u:Value),out[i]? = some (b,ws)->vs[i]? = some u->w'.ownsRow w.heap.size 57 3 u ws.length (Seq.cellsW ws):=by
 have hsz:(⟨x.toArray⟩:ByteArray).size = x.length:=List.size_toArray
 unfold Y9 at h
 split at h
 ·rename_i hlong
  cases h
  refine (zoE ⟨x.toArray⟩ (by rw [hsz]; exact hlong) w).mono ?_
  rintro en w' ⟨rfl,hb⟩
  exact ⟨[],_,[],rfl,rfl,hb,World.ownsRow_nil _ _ _ _,rfl,fun i b ws u hi=>by simp at hi⟩
 ·rename_i hshort
  cases hq:zbB znG (yF 10 x) [] 0 with
  | none=>rw [hq] at h; cases h
  | some t =>
  obtain ⟨out,e1,e2⟩:=t
  rw [hq] at h
  cases h
  refine (zrw wdF ⟨x.toArray⟩ (by rw [hsz]; omega) w (fun L W s p _ _ hx=>zqE hx) (fun L W s p r p' hL hs hb hx hr=>zqI hl hL hs hb hx hr) (fun L p r p' hr h0=>zmH hr h0) (fun L p r p' hr=>zs5 hr) (out:=out) (e1:=e1) (e2:=e2) hq).mono ?_
  rintro en w' ⟨v,vs,rfl,hb,how,hlen,hrows⟩
  exact ⟨out,v,vs,rfl,rfl,hb,how,hlen,hrows⟩
def zqL (r:Int × List Wd) (u:Value):RV:=(r.1,match u with | .slice b n c=>(b,n,c) | _=>(none,0,0))
theorem zqM {out:List (Int × List Wd)} {us:List Value} {i:Nat} {y:RV} (h:(List.zipWith zqL out us)[i]? = some y):∃ a ws u,out[i]? = some (a,ws)/\us[i]? = some u/\y = zqL (a,ws) u:=by
 rw [List.getElem?_zipWith] at h
 cases ho:out[i]? with
 | none=>rw [ho] at h; cases h
 | some t =>
  cases hu:us[i]? with
  | none=>rw [ho,hu] at h; cases h
  | some u =>
   rw [ho,hu] at h
   obtain ⟨a,ws⟩:=t
   cases h
   exact ⟨a,ws,u,rfl,rfl,rfl⟩
theorem zih {W:World} {base:Nat} {e:TypeId} {size n:Nat} {ba:Option Addr} {cap:Nat} {xs:List Value} (h:W.ownsRow base e size (.slice ba n cap) n xs) (hn:0 < n):∃ g,ba = some ⟨g,0,none⟩/\base <= g/\g < W.heap.size/\∀ j z,xs[j]? = some z->W.cell? ⟨g,j,none⟩ = some z:=by
 obtain ⟨hl,⟨e0,h0⟩ | ⟨g,cap',cur,e1,hge,hh,_,_,_,ht⟩⟩:=h
 ·omega
 ·cases e1
  refine ⟨g,rfl,hge,(Array.getElem?_eq_some_iff.1 hh).1,fun j z hz=>?_⟩
  have hlt:j < n * size:=by have:=(List.getElem?_eq_some_iff.1 hz).1; omega
  rw [<- ht,List.getElem?_take_of_lt hlt] at hz
  simp only [World.cell?,hh]
  simpa using hz
theorem zlc {w:World} {pr:Nat->Nat->Prop} (hl:HL w pr) {x:List UInt8} {rows:List Row} {f:Fault} (h:Y9 x = some (rows,f)) (w2:World) (hw2:Below w.heap.size w w2) (hs:w.heap.size + 2 <= w2.heap.size) :
  Calls Tryz.prog 29 #[.string ⟨x.toArray⟩] w2 fun e W'=>∃ (base:Option Addr) (cap:Nat) (vs:List RV),e = .returned (.tuple #[.slice base vs.length cap,.agg #[.int .i64 f.Err,.int .i64 f.At]])/\Below w2.heap.size w2 W'/\vs.length = rows.length /\
    (∀ (i:Nat) (y:RV),vs[i]? = some y->∃ b o,base = some ⟨b,o,none⟩/\w.heap.size + 2 <= b/\b < W'.heap.size/\W'.cell? ⟨b,o + i * 2,none⟩ = some (.int .i64 y.1)/\W'.cell? ⟨b,o + i * 2 + 1,none⟩ = some (.slice y.2.1 y.2.2.1 y.2.2.2)) /\
    (∀ (i:Nat) (r:Row) (y:RV),rows[i]? = some r->vs[i]? = some y->ztB w.heap.size W'.heap.size W' r y):=by
 refine (zqK (za3 hl hw2) h).mono ?_
 rintro en W' ⟨out,v,us,rfl,rfl,hb,how,hlen,hrows⟩
 obtain ⟨base,cap,rfl⟩:=YK how
 have hvl:(List.zipWith zqL out us).length = out.length:=by simp [hlen]
 refine ⟨base,cap,List.zipWith zqL out us,by rw [hvl],hb,by rw [hvl,List.length_map],fun i y hy=>?_,fun i r y hr hy=>?_⟩
 ·obtain ⟨a,ws,u,ho,hu,rfl⟩:=zqM hy
  obtain ⟨bu,cu,rfl⟩:=YK (hrows i a ws u ho hu)
  obtain ⟨g,rfl,h1,h2,h3⟩:=zih how (by have:=(List.getElem?_eq_some_iff.1 ho).1; omega)
  obtain ⟨c1,c2⟩:=zeq ho hu
  exact ⟨g,0,rfl,by omega,h2,by rw [Nat.zero_add]; exact h3 _ _ c1,by rw [Nat.zero_add]; exact h3 _ _ c2⟩
 ·obtain ⟨a,ws,u,ho,hu,rfl⟩:=zqM hy
  have hro:=hrows i a ws u ho hu
  obtain ⟨bu,cu,rfl⟩:=YK hro
  rw [List.getElem?_map,ho] at hr
  cases hr
  refine ⟨by simp [zqL,zcu],fun z tl hz=>?_⟩
  cases ws with
  | nil=>simp [zcu] at hz
  | cons q ws =>
   simp only [zcu,List.map_cons,List.cons.injEq] at hz
   obtain ⟨rfl,_⟩:=hz
   obtain ⟨g,rfl,h1,h2,h3⟩:=zih hro (by simp)
   obtain ⟨d0,d1,d2⟩:=zep (l:=q :: ws) (i:=0) (x:=q) rfl
   exact ⟨g,0,rfl,by omega,h2,h3 _ _ d0,by rw [Nat.zero_add]; exact h3 _ _ d1,by rw [Nat.zero_add]; exact h3 _ _ d2⟩
set_option maxRecDepth 20000 in
set_option maxHeartbeats 8000000 in
theorem zoF (S:ByteArray) (w:World) (c a:Int) (hc:c ≠ 0) (hRows:∀ w2,w2 = (w.alloc (.cells #[.slice none 0 0] 35)).alloc (.cells #[.int .i64 0,.int .i64 0] 30)->Calls Tryz.prog 29 #[.string S] w2 fun e W' =>
   (∃ v,e = .returned (.tuple #[v,.agg #[.int .i64 c,.int .i64 a]]))/\Below w2.heap.size w2 W') :
  Calls Tryz.prog 16 #[.string S] w fun en w'=>en = .returned (.tuple #[.slice none 0 0,.agg #[.int .i64 c,.int .i64 a]])/\Below w.heap.size w w':=by
 have hcb:(c != 0) = true:=bne_iff_ne.2 hc
 refine (callsIn_wide (n:=3)).1 ?_
 refine callsIn_of_wp_marks Tryz.func16 rfl trivial ?_ rfl
 simp only [Tryz.ntmps16,List.size_toArray,List.length_cons,List.length_nil,Nat.reduceAdd,Nat.reduceSub,Array.replicate_succ,Array.replicate_zero,List.push_toArray,List.append_toArray,List.nil_append,List.cons_append]
 have mixed:Tryz.prog.follows .mixedOrders = true:=by kernel_rfl
 obtain ⟨N,hN⟩:∃ N,w.heap.size = N:=⟨_,rfl⟩
 gi_wp2_with (refine ⟨trivial,?_⟩; gi_at_call 29; refine (callsIn_wide.2 (hRows _ rfl)).mono ?_; rintro e w1 ⟨⟨v,rfl⟩,x2⟩; clear hRows)
 obtain ⟨w2,hw2⟩:∃ w2,(w.alloc (.cells #[.slice none 0 0] 35)).alloc (.cells #[.int .i64 0,.int .i64 0] 30) = w2:=⟨_,rfl⟩
 have hw2s:w2.heap.size = N + 2:=by rw [<- hw2]; simp [hN]
 have hw2b:Below N w w2:=by rw [<- hw2,<- hN]; exact ((Below.refl _ _).alloc (Nat.le_refl _) _).alloc (by simp) _
 have c20:w2.heap[N]? = some (.cells #[.slice none 0 0] 35 (0,0)):=by rw [<- hw2,Below.heap_alloc _ _ _ (by simp [hN]),<- hN]; exact ahn _ _
 have c21:w2.heap[N + 1]? = some (.cells #[.int .i64 0,.int .i64 0] 30 (0,0)):=by
  have:=ahn (w.alloc (.cells #[.slice none 0 0] 35)) (.cells #[.int .i64 0,.int .i64 0] 30)
  rw [<- hw2]; simpa [hN] using this
 rw [hw2] at x2
 obtain ⟨M,hM⟩:∃ M,w1.heap.size = M:=⟨_,rfl⟩
 have hle:N + 2 <= M:=by have:=x2.size; omega
 have hMn:=ahn w1 (.cells #[.int .i64 c,.int .i64 a] 30)
 rw [hM] at hMn
 have b2:(w1.alloc (.cells #[.int .i64 c,.int .i64 a] 30)).heap[N]? = some (.cells #[.slice none 0 0] 35 (0,0)):=(Below.heap_alloc _ _ _ (by omega)).trans ((x2.block N (by omega)).trans c20)
 have b3:(w1.alloc (.cells #[.int .i64 c,.int .i64 a] 30)).heap[N + 1]? = some (.cells #[.int .i64 0,.int .i64 0] 30 (0,0)):=(Below.heap_alloc _ _ _ (by omega)).trans ((x2.block (N + 1) (by omega)).trans c21)
 have hB3:Below N w (w1.alloc (.cells #[.int .i64 c,.int .i64 a] 30)) :=
  (show Below N w w1 from ⟨x2.os.trans hw2b.os,x2.tape.trans hw2b.tape,x2.output.trans hw2b.output,by have:=hw2b.size; omega,fun k hk=>(x2.block k (by omega)).trans (hw2b.block k hk)⟩).alloc (by omega) _
 simp only [hM]
 clear x2 hw2 c20 c21 hw2b
 generalize w1.alloc (.cells #[.int .i64 c,.int .i64 a] 30) = w3 at hMn b2 b3 hB3 ⊢
 obtain ⟨a0,a1⟩:w3.cell? ⟨M,0,none⟩ = some (.int .i64 c)/\w3.cell? ⟨M,1,none⟩ = some (.int .i64 a):=by simp [World.cell?,hMn]
 obtain ⟨d2,f2⟩:w3.cell? ⟨N,0,none⟩ = some (.slice none 0 0)/\w3.frozen? ⟨N,0,none⟩ = false:=by simp [World.cell?,World.frozen?,b2]
 obtain ⟨d3,d3',f3,f3'⟩:w3.cell? ⟨N + 1,0,none⟩ = some (.int .i64 0)/\w3.cell? ⟨N + 1,1,none⟩ = some (.int .i64 0)/\w3.frozen? ⟨N + 1,0,none⟩ = false/\w3.frozen? ⟨N + 1,1,none⟩ = false:=by simp [World.cell?,World.frozen?,b3]
 gi_region
 all_goals gi_wp2
 have e0:((((w3.setCell ⟨N,0,none⟩ (.slice none 0 0)).setCell ⟨N + 1,0,none⟩ (.int .i64 c)).setCell ⟨N + 1,1,none⟩ (.int .i64 a))).drew.heap[N]? = some (.cells #[.slice none 0 0] 35 (0,0)):=by
  show (World.setCell _ _ _).heap[N]? = _
  rw [Below.heap_setCell _ _ _ _ (by simp),Below.heap_setCell _ _ _ _ (by simp),heap_setCell_same _ _ 0 _ _ _ b2]
  rfl
 have e1:((((w3.setCell ⟨N,0,none⟩ (.slice none 0 0)).setCell ⟨N + 1,0,none⟩ (.int .i64 c)).setCell ⟨N + 1,1,none⟩ (.int .i64 a))).drew.heap[N + 1]? = some (.cells #[.int .i64 c,.int .i64 a] 30 (0,0)):=by
  have c0:(w3.setCell ⟨N,0,none⟩ (.slice none 0 0)).heap[N + 1]? = some (.cells #[.int .i64 0,.int .i64 0] 30 (0,0)):=(Below.heap_setCell _ _ _ _ (by simp)).trans b3
  exact heap_setCell_same _ _ 1 _ _ (.int .i64 a) (heap_setCell_same _ _ 0 _ _ (.int .i64 c) c0)
 have hBf:Below N w ((((w3.setCell ⟨N,0,none⟩ (.slice none 0 0)).setCell ⟨N + 1,0,none⟩ (.int .i64 c)).setCell ⟨N + 1,1,none⟩ (.int .i64 a))).drew:=(qg (qg (qg hB3 (Nat.le_refl _) _) (Nat.le_succ _) _) (Nat.le_succ _) _).drew
 generalize ((((w3.setCell ⟨N,0,none⟩ (.slice none 0 0)).setCell ⟨N + 1,0,none⟩ (.int .i64 c)).setCell ⟨N + 1,1,none⟩ (.int .i64 a))).drew = B at e0 e1 hBf ⊢
 have g0:B.cell? ⟨N,0,none⟩ = some (.slice none 0 0):=by simp [World.cell?,e0]
 have g1:B.cell? ⟨N + 1,0,none⟩ = some (.int .i64 c):=by simp [World.cell?,e1]
 have g2:B.cell? ⟨N + 1,1,none⟩ = some (.int .i64 a):=by simp [World.cell?,e1]
 refine ⟨.tuple #[.slice none 0 0,.agg #[.int .i64 c,.int .i64 a]],?_,rfl,?_⟩
 ·simp [results,Tryz.f16,go_sem,g0,g1,g2]
 ·rw [hN]; exact hBf
theorem zrQ {E:Env} {m:Mrk} {v:Value} (h:R E (qQ m) v):v = Q2 m:=by
 change R E (.agg [.int .i64 m.ID.Node,.int .u64 m.ID.Seq,.int .i64 m.ID.Off,.int .i64 m.Until]) v at h
 simp only [R,RL] at h
 obtain ⟨xs,rfl,⟨y0,ys0,rfl,rfl,y1,ys1,rfl,rfl,y2,ys2,rfl,rfl,y3,ys3,rfl,rfl,rfl⟩,_⟩:=h
 rfl
theorem zr9 {E:Env} (m:Mrk):R E (qQ m) (Q2 m):=by
 show R E (.agg [.int .i64 m.ID.Node,.int .u64 m.ID.Seq,.int .i64 m.ID.Off,.int .i64 m.Until]) _
 unfold Q2
 simp only [R,RL]
 refine ⟨_,rfl,⟨_,_,rfl,rfl,_,_,rfl,rfl,_,_,rfl,rfl,_,_,rfl,rfl,rfl⟩,?_⟩
 intro y hy; simp at hy; rcases hy with rfl | rfl | rfl | rfl <;> rfl
noncomputable def zbX (s:List UInt8):Option (Mrk × Bool):=if s.length <= 1000000 then Zo s else none
theorem zoG {w W:World} {pr:Nat->Nat->Prop} (hl:HL w pr) (hb:Below w.heap.size w W) {s:List UInt8} {m:Mrk × Bool} (h:zbX s = some m) :
  Calls Tryz.prog 48 #[.string ⟨s.toArray⟩] W fun e W'=>e = .returned (.tuple #[Q2 m.1,.bool m.2])/\Below W.heap.size W W':=by
 unfold zbX at h
 split at h
 case isFalse=>cases h
 rename_i hs
 refine (zaM Zo.fn (za3 hl hb) (x:=s) h (args:=#[.string ⟨s.toArray⟩]) (by
  show RL _ [.str s] [.string ⟨s.toArray⟩]
  simp only [RL,R]; exact ⟨_,_,rfl,⟨rfl,by unfold maxLen; omega⟩,rfl⟩)).mono ?_
 rintro e W' ⟨v,pr',rfl,hr,hb'⟩
 change R _ (.tup [qQ m.1,.bool m.2]) v at hr
 simp only [R,RL] at hr
 obtain ⟨xs,rfl,y,ys,rfl,hy,y2,ys2,rfl,rfl,rfl⟩:=hr
 rw [zrQ hy]
 exact ⟨rfl,hb'⟩
theorem zqN {w W:World} {pr:Nat->Nat->Prop} (hl:HL w pr) (hb:Below w.heap.size w W) {m:Mrk} {n:Int} (h:yS m = some n) :
  Calls Tryz.prog 49 #[Q2 m] W fun e W'=>e = .returned (.int .i64 n)/\Below W.heap.size W W':=by
 refine (zaM yS.fn (za3 hl hb) (x:=m) h (args:=#[Q2 m]) (by
  show RL _ [qQ m] [Q2 m]
  simp only [RL]; exact ⟨_,_,rfl,zr9 m,rfl⟩)).mono ?_
 rintro e W' ⟨v,pr',rfl,hr,hb'⟩
 change R _ (.int .i64 n) v at hr
 simp only [R] at hr
 exact ⟨by rw [hr],hb'⟩
theorem zqO {w W:World} {pr:Nat->Nat->Prop} (hl:HL w pr) (hb:Below w.heap.size w W) {a b:ID} {n:Int} (h:zB (a,b) = some n) :
  Calls Tryz.prog 50 #[zai a,zai b] W fun e W'=>e = .returned (.int .i64 n)/\Below W.heap.size W W':=by
 refine (zaM zB.fn (za3 hl hb) (x:=(a,b)) h (args:=#[zai a,zai b]) (by
  show RL _ [.agg [.int .i64 a.Node,.int .u64 a.Seq,.int .i64 a.Off],.agg [.int .i64 b.Node,.int .u64 b.Seq,.int .i64 b.Off]] [zai a,zai b]
  simp only [RL]; exact ⟨_,_,rfl,zs9 a,_,_,rfl,zs9 b,rfl⟩)).mono ?_
 rintro e W' ⟨v,pr',rfl,hr,hb'⟩
 change R _ (.int .i64 n) v at hr
 simp only [R] at hr
 exact ⟨by rw [hr],hb'⟩
noncomputable def ql (x:List UInt8):Option (List Mrk × Fault):=(Y9 x).bind fun r =>
 if r.2.Err ≠ 0 then some ([],r.2) else if r.1.length < 100000 then (psF zbX yS zB r.1 []).map fun t=>(t.1,⟨t.2.1,t.2.2⟩) else none
theorem ql.fn:FnT Tryz.prog 16 [.d .str] [.l_Mrk,.Fault] ql:=by
 intro (x:List UInt8) r h
 intro w pr lam cargs hl hargs _ _ _
 simp only [yr,qT,qa,refl,YP,zg,toV,RL,R] at hargs
 obtain ⟨y,ys,e,⟨rfl,hs⟩,rfl⟩:=hargs
 have hc':cargs = #[.string ⟨x.toArray⟩]:=by rw [<- Array.toList_inj]; simpa using e
 subst hc'
 have hF:∀ (E:Env) (a b:Int),R E (.agg [.int .i64 a,.int .i64 b]) (.agg #[.int .i64 a,.int .i64 b]):=fun E a b=>by
  simp only [R,RL]
  exact ⟨_,rfl,⟨_,_,rfl,rfl,_,_,rfl,rfl,rfl⟩,by simp [Value.oneCell']⟩
 have hw2b:∀ w2,w2 = (w.alloc (.cells #[.slice none 0 0] 35)).alloc (.cells #[.int .i64 0,.int .i64 0] 30)->Below w.heap.size w w2/\w.heap.size + 2 <= w2.heap.size:=by
  rintro w2 rfl
  exact ⟨((Below.refl _ _).alloc (Nat.le_refl _) _).alloc (by simp) _,by simp⟩
 unfold ql at h
 obtain ⟨⟨rows,f⟩,hR,h⟩:=bind_some h
 dsimp only at h
 split at h
 ·rename_i hc
  cases h
  refine (zoF ⟨x.toArray⟩ w f.Err f.At hc fun w2 e=>((zlc hl hR w2 (hw2b w2 e).1 (hw2b w2 e).2).mono fun en W' ⟨base,cap,vs,h1,h2,_⟩=>⟨⟨_,h1⟩,h2⟩)).mono ?_
  rintro en w' ⟨rfl,hb⟩
  refine ⟨_,pr,rfl,?_,fun i B h=>by simp at h,⟨hb.os,hb.tape,hb.output,DLE.any _ _,hb.size,fun k hk _=>hb.block k hk,fun _ _ h=>h,fun _ _ h=>.inl h⟩⟩
  have hF':=hF ⟨w',pr,lam⟩ f.Err f.At
  show R _ (.tup [.list [],.agg [.int .i64 f.Err,.int .i64 f.At]]) _
  simp only [R,RL] at hF' ⊢
  exact ⟨_,rfl,_,_,rfl,⟨none,0,rfl,Nat.le_refl _,Nat.zero_le _,.inl (by simp)⟩,_,_,rfl,hF',rfl⟩
 ·rename_i hc
  split at h
  case isFalse=>cases h
  rename_i hlen
  obtain ⟨⟨out,e1,e2⟩,hq,h⟩:=Option.map_eq_some_iff.1 h
  cases h
  have hc0:f.Err = 0:=by simpa using hc
  obtain ⟨fe,fa⟩:=f
  dsimp only at hc0
  subst hc0
  refine (zpV ⟨x.toArray⟩ w rows hlen zbX yS zB fa hq (fun w2 e=>zlc hl hR w2 (hw2b w2 e).1 (hw2b w2 e).2) (fun W s m hb hm=>zoG hl hb hm) (fun W m n hb hm=>zqN hl hb hm) (fun W a b n hb hm=>zqO hl hb hm)).mono ?_
  rintro en w' ⟨v,rfl,how,hb⟩
  refine ⟨_,fun b o=>pr b o ∨ (w.heap.size <= b/\b < w'.heap.size),rfl,?_,fun i B h=>by simp at h,⟨hb.os,hb.tape,hb.output,DLE.any _ _,hb.size,fun k hk _=>hb.block k hk,fun _ _ h=>.inl h,fun _ _ h=>h⟩⟩
  show R _ (.tup [.list (out.map qQ),.agg [.int .i64 e1,.int .i64 e2]]) _
  have hL:R ⟨w',fun b o=>pr b o ∨ (w.heap.size <= b/\b < w'.heap.size),lam⟩ (.list (out.map qQ)) v:=by
   refine zqJ how rfl (fun b o h1 h2=>Or.inr ⟨h1,h2⟩) _ (by simp) fun i r hi=>?_
   rw [List.getElem?_map] at hi
   cases ho:out[i]? with
   | none=>rw [ho] at hi; cases hi
   | some m =>
   rw [ho] at hi
   cases hi
   obtain ⟨c0,c1,c2,c3⟩:=zd4 ho
   refine ⟨Q2 m,zr9 m,rfl,fun j z hz=>?_⟩
   match j,hz with
   | 0,hz=>simp [Value.cells,Q2] at hz; subst hz; exact ⟨c0,rfl⟩
   | 1,hz=>simp [Value.cells,Q2] at hz; subst hz; exact ⟨c1,rfl⟩
   | 2,hz=>simp [Value.cells,Q2] at hz; subst hz; exact ⟨c2,rfl⟩
   | 3,hz=>simp [Value.cells,Q2] at hz; subst hz; exact ⟨c3,rfl⟩
   | j + 4,hz=>simp [Value.cells,Q2] at hz
  have hF':=hF ⟨w',fun b o=>pr b o ∨ (w.heap.size <= b/\b < w'.heap.size),lam⟩ e1 e2
  rw [R]
  refine ⟨_,rfl,?_⟩
  rw [RL]
  refine ⟨_,_,rfl,hL,?_⟩
  rw [RL]
  refine ⟨_,_,rfl,hF',?_⟩
  rw [RL]
noncomputable def ql.spec:ze Tryz.prog:=ze.t 16 [.d .str] [.l_Mrk,.Fault] ql (by kernel_rfl) ql.fn
end Go.Proofs.YtjcbpfhlgebgdaaGreatDoor
