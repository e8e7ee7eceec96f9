import Derived.Test.YtjcbpfhlgebgdaaGreatDoorSP2
import Derived.Test.YtjcbpfhlgebgdaaGreatDoorRRd
set_option linter.unusedSimpArgs false
set_option linter.unusedVariables false
namespace Go.Seq
open Go.RowKit Go.Shelf Go.Proofs Go.X Go.Proofs.YtjcbpfhlgebgdaaGreatDoor
theorem wtj {P:Program} {ops:Array Oper} {Q:Exit->Act->World->Prop} {md:Region.Mode} {S:World->Prop} {i:Nat} {oi:Oper} {v:Value} {fuel:Nat} {listed:Array Bool} {a:Act} {w:World} (hi:ops[i]? = some oi) (hy:YieldsIf P ops S oi v a) (hS:S w) (h:wpAnyH P md ops Q S fuel (listed.setIfInBounds i true) (a.put oi.dst v) w) (hs:Region.noSelect ops = true:=by kernel_rfl) (hf:Region.free md ops listed i = true:=by kernel_rfl) (hr:(Region.ready md ops listed).contains i = true:=by kernel_rfl) (hQ:∀ c a w,Q (.panic c) (a.put oi.dst v) w->Q (.panic c) a w:=by exact fun _ _ _ h=>h):wpAnyH P md ops Q S (fuel + 1) listed a w:=wpAnyH_take hi hs hf hr hQ hy hS h
attribute [local go_sem] Oper.semAt_some
structure Zl (p:Prop):Prop where
 h:p
theorem zku:∀ (vs:List RV) (i:Nat),(zcl i vs).length = vs.length
 | [],i=>rfl
 | y :: ys,i=>by simp [zcl,zku ys (i + 1)]
theorem zt2 {n:Nat} (h:n ≠ 1):((n:Int) != 1) = true:=by simp; omega
theorem zt3 {n:Nat} (h:n = 1):((n:Int) != 1) = false:=by simp; omega
theorem ztC {n:Nat} (h:0 < n):(0:Int) < (n:Int):=by omega
theorem zt4 {i n:Nat} (h:i < n):(i:Int) < (n:Int):=by omega
theorem PI.lastc {N N1:Nat} {w w1 A:World} {cap:Nat} {o:List Mrk} {gb:Nat} (h:PI N N1 w w1 A (.slice (some ⟨gb,0,none⟩) o.length cap) o) {j:Nat} {p:Mrk} (hp:o[j]? = some p) :
  A.cell? ⟨gb,j * 4,none⟩ = some (.int .i64 p.ID.Node)/\A.cell? ⟨gb,j * 4 + 1,none⟩ = some (.int .u64 p.ID.Seq)/\A.cell? ⟨gb,j * 4 + 2,none⟩ = some (.int .i64 p.ID.Off):=by
 obtain ⟨g,cap2,e,h1,h2,h3⟩:=h.last hp
 cases e
 exact ⟨h1,h2,h3⟩
theorem zaa {A B:World} {b j:Nat} {v:Value} (hb:Below A.heap.size A B) (h:A.cell? ⟨b,j,none⟩ = some v):B.cell? ⟨b,j,none⟩ = some v:=(hb.cell (p:=⟨b,j,none⟩) (World.block_lt_of_cell? A _ h)).trans h
theorem QO {N:Nat} {w W:World} (h:Below N w W):Below N w W.drew:=⟨h.os,h.tape,h.output,h.size,h.block⟩
theorem zr1 {N N1:Nat} {w w1 B:World} {v2:Value} {o:List Mrk} {m:Mrk} {rs:List Row} {pre:List (Nat × RV)} {z:Nat × RV} {rd:List UInt8->Option (Mrk × Bool)} {on:Mrk->Option Int} {cp:ID × ID->Option Int} {r:List Mrk × Int × Int}
  (hq:psF rd on cp (rs.drop (pre.length + 1)) (o++[m]) = some r) (q2:o.length = pre.length) (h:PI N N1 w w1 B v2 (o++[m])) :
  ∃ (o:List Mrk) (v:Value),psF rd on cp (rs.drop (pre++[z]).length) o = some r/\o.length = (pre++[z]).length/\PI N N1 w w1 B v o :=
 ⟨o++[m],v2,by simpa using hq,by simp [q2],h⟩
theorem pc5 {A:World} {n:Nat} (h:n <= A.heap.size) (ob:Obj):n <= (A.alloc ob).heap.size:=by simp; omega
set_option maxRecDepth 20000 in
set_option maxHeartbeats 8000000 in
theorem zpV (S:ByteArray) (w:World) (rs:List Row) (hrs:rs.length < 100000) (rd:List UInt8->Option (Mrk × Bool)) (on:Mrk->Option Int) (cp:ID × ID->Option Int) (fa:Int) {out:List Mrk} {e1 e2:Int}
  (hres:psF rd on cp rs [] = some (out,e1,e2))
  (hRows:∀ w2,w2 = (w.alloc (.cells #[.slice none 0 0] 35)).alloc (.cells #[.int .i64 0,.int .i64 0] 30)->Calls Tryz.prog 29 #[.string S] w2 fun e W' =>
   ∃ (base:Option Addr) (cap:Nat) (vs:List RV),e = .returned (.tuple #[.slice base vs.length cap,.agg #[.int .i64 0,.int .i64 fa]])/\Below w2.heap.size w2 W'/\vs.length = rs.length /\
    (∀ (i:Nat) (y:RV),vs[i]? = some y->∃ b o,base = some ⟨b,o,none⟩/\w.heap.size + 2 <= b/\b < W'.heap.size/\W'.cell? ⟨b,o + i * 2,none⟩ = some (.int .i64 y.1)/\W'.cell? ⟨b,o + i * 2 + 1,none⟩ = some (.slice y.2.1 y.2.2.1 y.2.2.2)) /\
    (∀ (i:Nat) (r:Row) (y:RV),rs[i]? = some r->vs[i]? = some y->ztB w.heap.size W'.heap.size W' r y))
  (hRd:∀ W s m,Below w.heap.size w W->rd s = some m->Calls Tryz.prog 48 #[.string ⟨s.toArray⟩] W fun e W'=>e = .returned (.tuple #[Q2 m.1,.bool m.2])/\Below W.heap.size W W')
  (hOn:∀ W m n,Below w.heap.size w W->on m = some n->Calls Tryz.prog 49 #[Q2 m] W fun e W'=>e = .returned (.int .i64 n)/\Below W.heap.size W W')
  (hCp:∀ W a b n,Below w.heap.size w W->cp (a,b) = some n->Calls Tryz.prog 50 #[zai a,zai b] W fun e W'=>e = .returned (.int .i64 n)/\Below W.heap.size W W') :
  Calls Tryz.prog 16 #[.string S] w fun en w'=>∃ v,en = .returned (.tuple #[v,.agg #[.int .i64 e1,.int .i64 e2]])/\w'.ownsRow w.heap.size 81 4 v out.length (Yp out)/\Below w.heap.size w w':=by
 refine (callsIn_wide (n:=3)).1 ?_
 refine callsIn_of_wp_marks Tryz.func16 rfl trivial ?_ rfl
 simp only [Tryz.ntmps16,List.size_toArray,List.length_cons,List.length_nil,Nat.reduceAdd,Nat.reduceSub,Array.replicate_succ,Array.replicate_zero,List.push_toArray,List.append_toArray,List.nil_append,List.cons_append]
 have mixed:Tryz.prog.follows .mixedOrders = true:=by kernel_rfl
 obtain ⟨N,hN⟩:∃ N,w.heap.size = N:=⟨_,rfl⟩
 gi_wp2_with (first
  | (refine ⟨trivial,?_⟩; gi_at_call 29; refine (callsIn_wide.2 (hRows _ rfl)).mono ?_; rintro e w1 ⟨base,cap,vs,rfl,x1,x2⟩; replace x2:=Zl.mk x2; clear hRows)
  | (refine ⟨trivial,?_⟩; gi_at_call 47; refine (callsIn_wide.2 (zn6 base vs.length cap _)).mono ?_; rintro e w' ⟨rfl,rfl⟩))
 obtain ⟨x2,x3,x4⟩:=x2.h
 obtain ⟨w2,hw2⟩:∃ w2,(w.alloc (.cells #[.slice none 0 0] 35)).alloc (.cells #[.int .i64 0,.int .i64 0] 30) = w2:=⟨_,rfl⟩
 have hw2s:w2.heap.size = N + 2:=by rw [<- hw2]; simp [hN]
 have hw2b:Below N w w2:=by rw [<- hw2,<- hN]; exact ((Below.refl _ _).alloc (Nat.le_refl _) _).alloc (by simp) _
 have c20:w2.heap[N]? = some (.cells #[.slice none 0 0] 35 (0,0)):=by rw [<- hw2,Below.heap_alloc _ _ _ (by simp [hN]),<- hN]; exact ahn _ _
 have c21:w2.heap[N + 1]? = some (.cells #[.int .i64 0,.int .i64 0] 30 (0,0)):=by
  have:=ahn (w.alloc (.cells #[.slice none 0 0] 35)) (.cells #[.int .i64 0,.int .i64 0] 30)
  rw [<- hw2]; simpa [hN] using this
 rw [hw2] at x1
 obtain ⟨N1,hN1⟩:∃ N1,w1.heap.size = N1:=⟨_,rfl⟩
 have hle:N + 2 <= N1:=by have:=x1.size; omega
 rw [hN] at x3 x4
 rw [hN1] at x3 x4
 have hsz3:(((w1.alloc (.cells #[.int .i64 0,.int .i64 fa] 30)).alloc (.cells #[.slice none 0 0] 35)).alloc (.cells #[.slice base vs.length cap] 68)).heap.size = N1 + 3:=by simp [hN1]
 obtain ⟨w3,hw3⟩:∃ w3,((w1.alloc (.cells #[.int .i64 0,.int .i64 fa] 30)).alloc (.cells #[.slice none 0 0] 35)).alloc (.cells #[.slice base vs.length cap] 68) = w3:=⟨_,rfl⟩
 have at13:w3.heap[N1 + 1]? = some (.cells #[.slice none 0 0] 35 (0,0)):=by
  have:=ahn (w1.alloc (.cells #[.int .i64 0,.int .i64 fa] 30)) (.cells #[.slice none 0 0] 35)
  rw [<- hw3,Below.heap_alloc _ _ _ (by simp [hN1])]; simpa [hN1] using this
 have at23:w3.heap[N1 + 2]? = some (.cells #[.slice base vs.length cap] 68 (0,0)):=by
  have:=ahn ((w1.alloc (.cells #[.int .i64 0,.int .i64 fa] 30)).alloc (.cells #[.slice none 0 0] 35)) (.cells #[.slice base vs.length cap] 68)
  rw [<- hw3]; simpa [hN1] using this
 have hb13:Below w1.heap.size w1 w3:=by rw [<- hw3]; exact (((Below.refl _ _).alloc (Nat.le_refl _) _).alloc (by simp) _).alloc (by simp; omega) _
 rw [hw3] at hsz3 ⊢
 have hP0:PI N N1 w w1 w3 (.slice none 0 0) []:=⟨⟨hb13.os.trans (x1.os.trans hw2b.os),hb13.tape.trans (x1.tape.trans hw2b.tape),hb13.output.trans (x1.output.trans hw2b.output),by have:=hw2b.size; omega,fun k hk=>(hb13.block k (by omega)).trans ((x1.block k (by omega)).trans (hw2b.block k hk))⟩,
  fun k h1 h2=>hb13.block k (by omega),by omega,(hb13.block N (by omega)).trans ((x1.block N (by omega)).trans c20),(hb13.block (N + 1) (by omega)).trans ((x1.block (N + 1) (by omega)).trans c21),at13,World.ownsRow_nil _ _ _ _⟩
 have hc3:w3.cell? ⟨N1 + 2,0,none⟩ = some (.slice base vs.length cap):=by simp [World.cell?,at23]
 have hr3:∀ (i:Nat) (y:RV),vs[i]? = some y->∃ b o,base = some ⟨b,o,none⟩/\(N + 2 <= b/\b < N1)/\w3.cell? ⟨b,o + i * 2,none⟩ = some (.int .i64 y.1)/\w3.cell? ⟨b,o + i * 2 + 1,none⟩ = some (.slice y.2.1 y.2.2.1 y.2.2.2):=fun i y hy=>by
  obtain ⟨b,o,h1,h2,h3,h4,h5⟩:=x3 i y hy
  exact ⟨b,o,h1,⟨h2,h3⟩,(qc (hb13.block b (by omega))).trans h4,(qc (hb13.block b (by omega))).trans h5⟩
 clear at13 at23 hw3 c20 c21 x3
 simp only [hN1]
 have x2':=x2.symm
 clear x2
 refine zd3 rfl (by decide) (gf:=87) (lb:=#[.pointer (some ⟨N1 + 2,0,none⟩)]) rfl trivial (enters_of Tryz.func87 (by kernel_rfl) rfl)
  (encs:=zpN) (Z:=fun _=>False) (K:=fun k=>N + 2 <= k/\k < N1) (zrx (by omega) (fun k hk=>by omega) hc3 hr3) (fun k hk=>hk.elim) (fun k hk=>by omega) (fun x=>rfl)
  (fun pre W=>∃ (o:List Mrk) (v:Value),psF rd on cp (rs.drop pre.length) o = some (out,e1,e2)/\o.length = pre.length/\PI N N1 w w1 W v o)
  (fun c pre W=>c = .ret/\out = []/\Below N w W/\N1 + 3 <= W.heap.size/\W.heap[N]? = some (.cells #[.slice none 0 0] 35 (0,0))/\W.heap[N + 1]? = some (.cells #[.int .i64 e1,.int .i64 e2] 30 (0,0)))
  (fun s A B ⟨o,v,q1,q2,q3⟩ ht=>⟨o,v,q1,q2,PI.turns hN.symm hle hN1.symm q3 (by rw [hsz3] at ht; exact ht)⟩)
  (fun c s A B ⟨q0,q1,q2,q3,q4,q5⟩ ht=>by
   rw [hsz3] at ht
   have key:∀ k o,A.heap[k]? = some o->(k < N1 + 3 ∨ o.isCells = true)->B.heap[k]? = some o:=fun k o hk hc=>ht.block k o hk (fun q=>q) hc
   refine ⟨q0,q1,⟨ht.os.trans q2.os,ht.tape.trans q2.tape,ht.output.trans q2.output,Nat.le_trans q2.size ht.size,fun k hk=>?_⟩,Nat.le_trans q3 ht.size,key _ _ q4 (.inr rfl),key _ _ q5 (.inr rfl)⟩
   have hb:=q2.block k hk
   have hkw:k < w.heap.size:=by omega
   rw [Array.getElem?_eq_getElem hkw] at hb ⊢
   exact key k _ hb (.inl (by omega)))
  ⟨[],.slice none 0 0,hres,rfl,hP0⟩
  (fun x W=>{ tmps:=#[.string S,undef,.pointer (some ⟨N,0,none⟩),.pointer (some ⟨N + 1,0,none⟩),.slice base vs.length cap,.pointer (some ⟨N1,0,none⟩),.pointer (some ⟨N1 + 1,0,none⟩),.int .i64 x.1,.pointer (some ⟨W.heap.size,0,none⟩),undef,undef,undef,undef,
   .tuple #[.slice base vs.length cap,.agg #[.int .i64 0,.int .i64 fa]],.string S,.tuple #[.slice base vs.length cap,.agg #[.int .i64 0,.int .i64 fa]],.slice base vs.length cap,.agg #[.int .i64 0,.int .i64 fa],.pointer (some ⟨N1,0,none⟩),.int .i64 0,.bool false,undef,.slice base vs.length cap,
   .func (.func 87) #[] #[.pointer (some ⟨N1 + 2,0,none⟩)],.int .i64 x.1,znj x.2,undef,undef,undef,undef,undef,undef,undef,undef,undef,undef,undef,undef,undef,undef,undef,undef,undef,undef,undef,undef,undef,undef,undef,undef,undef,undef,undef,undef,undef,undef,undef,undef,undef,undef,undef,undef,undef,undef,undef,undef,undef,undef,undef,undef,undef,undef,undef,undef,undef,undef,undef,undef,undef,undef,undef,undef,undef],defers:=[] })
  (fun x W=>W.alloc (zds x.2)) (fun x W=>⟨rfl,rfl,rfl,by simp,fun k hk _=>Below.heap_alloc _ _ _ hk⟩) ?assign ?body ?done ?stop
 case assign =>
  intro l x W Kc hK
  simp only [zpN,znj,zds] at hK ⊢
  gi_wp2
  exact hK
 case body =>
  rintro l pre z W V hl hlW ⟨o,v,q1,q2,q3⟩ hpre hszW hV
  obtain ⟨vb,vcap,rfl⟩:∃ vb vcap,v = .slice vb o.length vcap:=by
   obtain ⟨_,⟨rfl,h0⟩ | ⟨g,cap,cur,rfl,_⟩⟩:=q3.own
   ·exact ⟨none,0,by rw [h0]⟩
   ·exact ⟨_,_,rfl⟩
  obtain ⟨i,y⟩:=z
  obtain ⟨post,hpost⟩:=hpre
  obtain ⟨hi1,hi2⟩:=znk vs 0 pre post (i,y) (by rw [<- hpost]; simp)
  dsimp only at hi1 hi2
  rw [Nat.zero_add] at hi1
  have hil:pre.length < rs.length:=by have:=(List.getElem?_eq_some_iff.1 hi2).1; omega
  obtain ⟨r,hr⟩:∃ r,rs[pre.length]? = some r:=⟨rs[pre.length],List.getElem?_eq_getElem hil⟩
  have hwd:=x4 _ r y hr hi2
  have hdr:rs.drop pre.length = r :: rs.drop (pre.length + 1):=by
   rw [List.drop_eq_getElem_cons hil]
   congr 1
   rw [List.getElem?_eq_getElem hil] at hr
   exact Option.some.inj hr
  rw [hdr] at q1
  cases hrw:r.Words with
  | nil=>simp only [psF,hrw] at q1; cases q1
  | cons x tl =>
  simp only [psF,hrw] at q1
  obtain ⟨⟨m,is⟩,hm,q1'⟩:=bind_some q1
  clear q1
  obtain ⟨g,og,hg1,hg2,hg3,hg4,hg5,hg6⟩:=hwd.wd x tl hrw
  have hln:=hwd.len
  rw [hrw] at hln
  obtain ⟨ya,yb,yn,yc⟩:=y
  dsimp only at hg1 hln q1'
  subst hg1
  have hn0:0 < yn:=by rw [hln]; simp
  have hn0':=ztC hn0
  have hVM:V.heap[W.heap.size]? = some (zds (ya,some ⟨g,og,none⟩,yn,yc)):=(hV _ (by omega)).trans (ahn _ _)
  obtain ⟨M,hM⟩:∃ M,W.heap.size = M:=⟨_,rfl⟩
  rw [hM] at hVM
  have hMV:M < V.heap.size:=(Array.getElem?_eq_some_iff.1 hVM).1
  obtain ⟨t0,t1⟩:=Qj hVM
  have k0:=(qc (j:=og) (q3.mid g hg2 hg3)).trans hg4
  have k1:=(qc (j:=og + 1) (q3.mid g hg2 hg3)).trans hg5
  have k2:=(qc (j:=og + 2) (q3.mid g hg2 hg3)).trans hg6
  have hVs3:=q3.size
  have hVb:Below w.heap.size w (V.alloc (Z9 x)):=by rw [hN]; exact q3.bel.alloc (by have:=q3.size; omega) _
  have hMa:(V.alloc (Z9 x)).heap[M]? = some (zds (ya,some ⟨g,og,none⟩,yn,yc)):=(Below.heap_alloc _ _ _ hMV).trans hVM
  have hMs:M < (V.alloc (Z9 x)).heap.size:=by simp; omega
  have hXa:(V.alloc (Z9 x)).heap[V.heap.size]? = some (Z9 x):=ahn _ _
  have hXs:V.heap.size < (V.alloc (Z9 x)).heap.size:=by simp
  have hol:o.length < 100000:=by omega
  clear hg4 hg5 hg6 hwd hr hdr hrw hpost x4 hr3 hc3 hP0 hV hl hlW hszW
  replace hi1:=Zl.mk hi1
  replace q2:=Zl.mk q2
  simp only [hM,zpN,znj]
  by_cases htl:tl = []
  case neg =>
   have hyn:=zt2 (n:=yn) (by rw [hln]; intro e; simp at e; exact htl e)
   rw [if_pos (.inl htl)] at q1'
   have hq:Zl (out = []/\e1 = 3/\e2 = x.At):=by cases q1'; exact ⟨rfl,rfl,rfl⟩
   clear q1' hln
   gi_wp2_with (refine ⟨trivial,?_⟩; gi_at_call 48; refine (CallsIn.inRound l (callsIn_wide.2 (hRd (V.alloc (Z9 x)) x.Text _ hVb hm))).mono ?_; rintro e W1 ⟨rfl,y1⟩; have hP1:=(PI.alloc hle q3 (Z9 x)).below hle y1; have hM1:=(y1.block _ hMs).trans hMa; have hX1:=(y1.block _ hXs).trans hXa; have hVA1:Below V.heap.size V W1:=yR ((Below.refl _ _).alloc (Nat.le_refl _) _) (by simp) y1; clear y1; have hP2:=PI.alloc hle hP1 (qb m); have hM2:=(Below.heap_alloc W1 (qb m) _ (Array.getElem?_eq_some_iff.1 hM1).1).trans hM1; have hX2:=(Below.heap_alloc W1 (qb m) _ (Array.getElem?_eq_some_iff.1 hX1).1).trans hX1; have hm2:=ahn W1 (qb m); have hVA2:=hVA1.alloc hVA1.size (qb m); clear hP1 hM1 hX1 hVA1; obtain ⟨a0,a1⟩:=Qj hM2; obtain ⟨b0,b1,b2⟩:=ZA hX2; obtain ⟨d2,f2⟩:=hP2.cell2; obtain ⟨d3,d3',f3,f3'⟩:=hP2.cell3; clear hX2 hM2 hm2 hMs hMa hXs hXa hVb q3 hVM; simp only [qb] at a0 a1 b0 b1 b2 d2 f2 d3 d3' f3 f3'; simp only [Q2])
   all_goals gi_wp2
   gi_region
   all_goals gi_wp2
   all_goals
    obtain ⟨r1,r2,r3⟩:=hq.h
    have hf:=zbE (B:=(((((W1.alloc (qb m)).setCell ⟨N,0,none⟩ (.slice none 0 0)).setCell ⟨N + 1,0,none⟩ (.int .i64 3)).setCell ⟨N + 1,1,none⟩ (.int .i64 x.At))).drew) hN.symm hle hVs3 hP2 hVA2 3 x.At rfl rfl rfl rfl
    rw [hsz3]
    refine ⟨hf.1,rfl,r1,hf.2.1,hf.2.2.1,hf.2.2.2.1,?_⟩
    rw [r2,r3]
    exact hf.2.2.2.2
  case pos =>
  have hyn:=zt3 (n:=yn) (by rw [hln,htl]; rfl)
  clear hln
  by_cases hky:x.Key = []
  case neg =>
   have hkb:(x.Key == ([]:List UInt8)) = false:=by simpa using hky
   rw [if_pos (.inr (.inl hky))] at q1'
   have hq:Zl (out = []/\e1 = 3/\e2 = x.At):=by cases q1'; exact ⟨rfl,rfl,rfl⟩
   clear q1' hky
   gi_wp2_with (refine ⟨trivial,?_⟩; gi_at_call 48; refine (CallsIn.inRound l (callsIn_wide.2 (hRd (V.alloc (Z9 x)) x.Text _ hVb hm))).mono ?_; rintro e W1 ⟨rfl,y1⟩; have hP1:=(PI.alloc hle q3 (Z9 x)).below hle y1; have hM1:=(y1.block _ hMs).trans hMa; have hX1:=(y1.block _ hXs).trans hXa; have hVA1:Below V.heap.size V W1:=yR ((Below.refl _ _).alloc (Nat.le_refl _) _) (by simp) y1; clear y1; have hP2:=PI.alloc hle hP1 (qb m); have hM2:=(Below.heap_alloc W1 (qb m) _ (Array.getElem?_eq_some_iff.1 hM1).1).trans hM1; have hX2:=(Below.heap_alloc W1 (qb m) _ (Array.getElem?_eq_some_iff.1 hX1).1).trans hX1; have hm2:=ahn W1 (qb m); have hVA2:=hVA1.alloc hVA1.size (qb m); clear hP1 hM1 hX1 hVA1; obtain ⟨a0,a1⟩:=Qj hM2; obtain ⟨b0,b1,b2⟩:=ZA hX2; obtain ⟨d2,f2⟩:=hP2.cell2; obtain ⟨d3,d3',f3,f3'⟩:=hP2.cell3; clear hX2 hM2 hm2 hMs hMa hXs hXa hVb q3 hVM; simp only [qb] at a0 a1 b0 b1 b2 d2 f2 d3 d3' f3 f3'; simp only [Q2])
   all_goals gi_wp2
   gi_region
   all_goals gi_wp2
   all_goals
    obtain ⟨r1,r2,r3⟩:=hq.h
    have hf:=zbE (B:=(((((W1.alloc (qb m)).setCell ⟨N,0,none⟩ (.slice none 0 0)).setCell ⟨N + 1,0,none⟩ (.int .i64 3)).setCell ⟨N + 1,1,none⟩ (.int .i64 x.At))).drew) hN.symm hle hVs3 hP2 hVA2 3 x.At rfl rfl rfl rfl
    rw [hsz3]
    refine ⟨hf.1,rfl,r1,hf.2.1,hf.2.2.1,hf.2.2.2.1,?_⟩
    rw [r2,r3]
    exact hf.2.2.2.2
  case pos =>
  have hkb:(x.Key == ([]:List UInt8)) = true:=by simpa using hky
  replace hky:=Zl.mk hky
  cases is with
  | false =>
   rw [if_pos (.inr (.inr rfl))] at q1'
   have hq:Zl (out = []/\e1 = 3/\e2 = x.At):=by cases q1'; exact ⟨rfl,rfl,rfl⟩
   clear q1'
   gi_wp2_with (refine ⟨trivial,?_⟩; gi_at_call 48; refine (CallsIn.inRound l (callsIn_wide.2 (hRd (V.alloc (Z9 x)) x.Text _ hVb hm))).mono ?_; rintro e W1 ⟨rfl,y1⟩; have hP1:=(PI.alloc hle q3 (Z9 x)).below hle y1; have hM1:=(y1.block _ hMs).trans hMa; have hX1:=(y1.block _ hXs).trans hXa; have hVA1:Below V.heap.size V W1:=yR ((Below.refl _ _).alloc (Nat.le_refl _) _) (by simp) y1; clear y1; have hP2:=PI.alloc hle hP1 (qb m); have hM2:=(Below.heap_alloc W1 (qb m) _ (Array.getElem?_eq_some_iff.1 hM1).1).trans hM1; have hX2:=(Below.heap_alloc W1 (qb m) _ (Array.getElem?_eq_some_iff.1 hX1).1).trans hX1; have hm2:=ahn W1 (qb m); have hVA2:=hVA1.alloc hVA1.size (qb m); clear hP1 hM1 hX1 hVA1; obtain ⟨a0,a1⟩:=Qj hM2; obtain ⟨b0,b1,b2⟩:=ZA hX2; obtain ⟨d2,f2⟩:=hP2.cell2; obtain ⟨d3,d3',f3,f3'⟩:=hP2.cell3; clear hX2 hM2 hm2 hMs hMa hXs hXa hVb q3 hVM; simp only [qb] at a0 a1 b0 b1 b2 d2 f2 d3 d3' f3 f3'; simp only [Q2])
   all_goals gi_wp2
   gi_region
   all_goals gi_wp2
   all_goals
    obtain ⟨r1,r2,r3⟩:=hq.h
    have hf:=zbE (B:=(((((W1.alloc (qb m)).setCell ⟨N,0,none⟩ (.slice none 0 0)).setCell ⟨N + 1,0,none⟩ (.int .i64 3)).setCell ⟨N + 1,1,none⟩ (.int .i64 x.At))).drew) hN.symm hle hVs3 hP2 hVA2 3 x.At rfl rfl rfl rfl
    rw [hsz3]
    refine ⟨hf.1,rfl,r1,hf.2.1,hf.2.2.1,hf.2.2.2.1,?_⟩
    rw [r2,r3]
    exact hf.2.2.2.2
  | true =>
  rw [if_neg (by rintro (h | h | h); exact h htl; exact h hky.h; cases h)] at q1'
  obtain ⟨n,hn,q1⟩:=bind_some q1'
  clear q1'
  by_cases hn0:n = 0
  case neg =>
   have hnb:(n != 0) = true:=bne_iff_ne.2 hn0
   rw [if_pos hn0] at q1
   have hq:Zl (out = []/\e1 = n/\e2 = x.At):=by cases q1; exact ⟨rfl,rfl,rfl⟩
   clear q1
   gi_wp2_with (first | (refine ⟨trivial,?_⟩; gi_at_call 48; refine (CallsIn.inRound l (callsIn_wide.2 (hRd (V.alloc (Z9 x)) x.Text _ hVb hm))).mono ?_; rintro e W1 ⟨rfl,y1⟩; have hP1:=(PI.alloc hle q3 (Z9 x)).below hle y1; have hM1:=(y1.block _ hMs).trans hMa; have hX1:=(y1.block _ hXs).trans hXa; have hVA1:Below V.heap.size V W1:=yR ((Below.refl _ _).alloc (Nat.le_refl _) _) (by simp) y1; clear y1; have hP2:=PI.alloc hle hP1 (qb m); have hM2:=(Below.heap_alloc W1 (qb m) _ (Array.getElem?_eq_some_iff.1 hM1).1).trans hM1; have hX2:=(Below.heap_alloc W1 (qb m) _ (Array.getElem?_eq_some_iff.1 hX1).1).trans hX1; have hm2:=ahn W1 (qb m); have hVA2:=hVA1.alloc hVA1.size (qb m); clear hP1 hM1 hX1 hVA1; obtain ⟨a0,a1⟩:=Qj hM2; obtain ⟨b0,b1,b2⟩:=ZA hX2; obtain ⟨m0,m1,m2,m3⟩:=Q1 hm2; have hWb:Below w.heap.size w (W1.alloc (qb m)):=(by rw [hN]; exact hP2.bel); clear hMs hMa hXs hXa hVb q3 hVM hM2; replace hX2:=Zl.mk hX2; replace hm2:=Zl.mk hm2; simp only [qb] at a0 a1 b0 b1 b2 m0 m1 m2 m3; simp only [Q2]) | (refine ⟨trivial,?_⟩; gi_at_call 49; refine (CallsIn.inRound l (callsIn_wide.2 (hOn (W1.alloc (qb m)) m _ hWb hn))).mono ?_; rintro e W2 ⟨rfl,y2⟩; have hP3:=hP2.below hle y2; have hX3:=(y2.block _ (Array.getElem?_eq_some_iff.1 hX2.h).1).trans hX2.h; have hm3:=(y2.block _ (Array.getElem?_eq_some_iff.1 hm2.h).1).trans hm2.h; have hVA3:=yR hVA2 hVA2.size y2; clear y2 hP2 hX2 hm2 hVA2 hWb a0 a1 b0 b1 b2 m0 m1 m2 m3; obtain ⟨b0,b1,b2⟩:=ZA hX3; obtain ⟨m0,m1,m2,m3⟩:=Q1 hm3; obtain ⟨d2,f2⟩:=hP3.cell2; obtain ⟨d3,d3',f3,f3'⟩:=hP3.cell3; clear hX3 hm3))
   all_goals gi_wp2
   gi_region
   all_goals gi_wp2
   all_goals
    obtain ⟨r1,r2,r3⟩:=hq.h
    have hf:=zbE (B:=((((W2.setCell ⟨N,0,none⟩ (.slice none 0 0)).setCell ⟨N + 1,0,none⟩ (.int .i64 n)).setCell ⟨N + 1,1,none⟩ (.int .i64 x.At))).drew) hN.symm hle hVs3 hP3 hVA3 n x.At rfl rfl rfl rfl
    rw [hsz3]
    refine ⟨hf.1,rfl,r1,hf.2.1,hf.2.2.1,hf.2.2.2.1,?_⟩
    rw [r2,r3]
    exact hf.2.2.2.2
  case pos =>
  subst hn0
  rw [if_neg (by simp)] at q1
  obtain ⟨hq3⟩:Nonempty (Zl (PI N N1 w w1 V (.slice vb o.length vcap) o)):=⟨⟨q3⟩⟩
  cases hp:o[o.length - 1]? with
  | none =>
   rw [hp] at q1
   have hq:=Zl.mk q1
   have hpz:pre.length = 0:=by
    have h1:=List.getElem?_eq_none_iff.1 hp
    have:=q2.h
    omega
   obtain rfl:i = 0:=hi1.h.trans hpz
   have hp9:=Zl.mk hpz
   clear hpz
   clear q1 hp
   obtain ⟨i81,z81,u35,hi81,hz81,hs81,hb81,hc81⟩:=zpS
   gi_wp2_with (first | (refine ⟨trivial,?_⟩; gi_at_call 48; refine (CallsIn.inRound l (callsIn_wide.2 (hRd (V.alloc (Z9 x)) x.Text _ hVb hm))).mono ?_; rintro e W1 ⟨rfl,y1⟩; have hP1:=(PI.alloc hle q3 (Z9 x)).below hle y1; have hM1:=(y1.block _ hMs).trans hMa; have hX1:=(y1.block _ hXs).trans hXa; have hVA1:Below V.heap.size V W1:=yR ((Below.refl _ _).alloc (Nat.le_refl _) _) (by simp) y1; clear y1; have hP2:=PI.alloc hle hP1 (qb m); have hM2:=(Below.heap_alloc W1 (qb m) _ (Array.getElem?_eq_some_iff.1 hM1).1).trans hM1; have hX2:=(Below.heap_alloc W1 (qb m) _ (Array.getElem?_eq_some_iff.1 hX1).1).trans hX1; have hm2:=ahn W1 (qb m); have hVA2:=hVA1.alloc hVA1.size (qb m); clear hP1 hM1 hX1 hVA1; obtain ⟨a0,a1⟩:=Qj hM2; obtain ⟨b0,b1,b2⟩:=ZA hX2; obtain ⟨m0,m1,m2,m3⟩:=Q1 hm2; have hWb:Below w.heap.size w (W1.alloc (qb m)):=(by rw [hN]; exact hP2.bel); clear hMs hMa hXs hXa hVb q3 hVM hM2; replace hX2:=Zl.mk hX2; replace hm2:=Zl.mk hm2; simp only [qb] at a0 a1 b0 b1 b2 m0 m1 m2 m3; simp only [Q2]) | (refine ⟨trivial,?_⟩; gi_at_call 49; refine (CallsIn.inRound l (callsIn_wide.2 (hOn (W1.alloc (qb m)) m _ hWb hn))).mono ?_; rintro e W2 ⟨rfl,y2⟩; have hP3:=hP2.below hle y2; have hX3:=(y2.block _ (Array.getElem?_eq_some_iff.1 hX2.h).1).trans hX2.h; have hm3:=(y2.block _ (Array.getElem?_eq_some_iff.1 hm2.h).1).trans hm2.h; have hVA3:=yR hVA2 hVA2.size y2; clear y2 hP2 hX2 hm2 hVA2 hWb a0 a1 b0 b1 b2 m0 m1 m2 m3; obtain ⟨b0,b1,b2⟩:=ZA hX3; obtain ⟨m0,m1,m2,m3⟩:=Q1 hm3; obtain ⟨d4,f4⟩:=hP3.cell4; have hown3:=hP3.own; clear hX3 hm3))
   refine zaT (S:=fun _=>True) (by kernel_rfl) (by kernel_rfl) trivial (fun hHeld=>?_)
   refine wpAnyH_take (i:=0) (v:=?_) rfl (by kernel_rfl) (by kernel_rfl) (by kernel_rfl) (fun _ _ _ h=>nomatch h.1) (Or.inl ⟨by rfl,?_⟩) (by assumption) ?_
   rotate_left
   ·intro w hSw
    try dsimp only at hSw
    go_split_ands
    go_simp
    try with_reducible rfl
   try simp only [Act.put,List.getElem_toArray,List.getElem_cons_zero,List.getElem_cons_succ,List.setIfInBounds_toArray,List.set_cons_zero,List.set_cons_succ]
   refine wpAnyH_take (i:=1) (v:=?_) rfl (by kernel_rfl) (by kernel_rfl) (by kernel_rfl) (fun _ _ _ h=>nomatch h.1) (Or.inl ⟨by rfl,?_⟩) (by assumption) ?_
   rotate_left
   ·intro w hSw
    try dsimp only at hSw
    go_split_ands
    go_simp
    try with_reducible rfl
   try simp only [Act.put,List.getElem_toArray,List.getElem_cons_zero,List.getElem_cons_succ,List.setIfInBounds_toArray,List.set_cons_zero,List.set_cons_succ]
   refine wpAnyH_take (i:=2) (v:=?_) rfl (by kernel_rfl) (by kernel_rfl) (by kernel_rfl) (fun _ _ _ h=>nomatch h.1) (Or.inl ⟨by rfl,?_⟩) (by assumption) ?_
   rotate_left
   ·intro w hSw
    try dsimp only at hSw
    go_split_ands
    go_simp
    try with_reducible rfl
   try simp only [Act.put,List.getElem_toArray,List.getElem_cons_zero,List.getElem_cons_succ,List.setIfInBounds_toArray,List.set_cons_zero,List.set_cons_succ]
   refine wpAnyH_take (i:=3) (v:=undef) rfl (by kernel_rfl) (by kernel_rfl) (by kernel_rfl) (fun _ _ _ h=>nomatch h.1) (Or.inr ⟨by rfl,rfl⟩) (by assumption) ?_
   try simp only [Act.put,List.getElem_toArray,List.getElem_cons_zero,List.getElem_cons_succ,List.setIfInBounds_toArray,List.set_cons_zero,List.set_cons_succ]
   refine wpAnyH_take (i:=4) (v:=undef) rfl (by kernel_rfl) (by kernel_rfl) (by kernel_rfl) (fun _ _ _ h=>nomatch h.1) (Or.inr ⟨by rfl,rfl⟩) (by assumption) ?_
   try simp only [Act.put,List.getElem_toArray,List.getElem_cons_zero,List.getElem_cons_succ,List.setIfInBounds_toArray,List.set_cons_zero,List.set_cons_succ]
   refine wpAnyH_take (i:=5) (v:=undef) rfl (by kernel_rfl) (by kernel_rfl) (by kernel_rfl) (fun _ _ _ h=>nomatch h.1) (Or.inr ⟨by rfl,rfl⟩) (by assumption) ?_
   try simp only [Act.put,List.getElem_toArray,List.getElem_cons_zero,List.getElem_cons_succ,List.setIfInBounds_toArray,List.set_cons_zero,List.set_cons_succ]
   refine wpAnyH_take (i:=6) (v:=undef) rfl (by kernel_rfl) (by kernel_rfl) (by kernel_rfl) (fun _ _ _ h=>nomatch h.1) (Or.inr ⟨by rfl,rfl⟩) (by assumption) ?_
   try simp only [Act.put,List.getElem_toArray,List.getElem_cons_zero,List.getElem_cons_succ,List.setIfInBounds_toArray,List.set_cons_zero,List.set_cons_succ]
   refine wpAnyH_take (i:=7) (v:=undef) rfl (by kernel_rfl) (by kernel_rfl) (by kernel_rfl) (fun _ _ _ h=>nomatch h.1) (Or.inr ⟨by rfl,rfl⟩) (by assumption) ?_
   try simp only [Act.put,List.getElem_toArray,List.getElem_cons_zero,List.getElem_cons_succ,List.setIfInBounds_toArray,List.set_cons_zero,List.set_cons_succ]
   refine wpAnyH_take (i:=8) (v:=undef) rfl (by kernel_rfl) (by kernel_rfl) (by kernel_rfl) (fun _ _ _ h=>nomatch h.1) (Or.inr ⟨by rfl,rfl⟩) (by assumption) ?_
   try simp only [Act.put,List.getElem_toArray,List.getElem_cons_zero,List.getElem_cons_succ,List.setIfInBounds_toArray,List.set_cons_zero,List.set_cons_succ]
   refine wpAnyH_take (i:=9) (v:=undef) rfl (by kernel_rfl) (by kernel_rfl) (by kernel_rfl) (fun _ _ _ h=>nomatch h.1) (Or.inr ⟨by rfl,rfl⟩) (by assumption) ?_
   try simp only [Act.put,List.getElem_toArray,List.getElem_cons_zero,List.getElem_cons_succ,List.setIfInBounds_toArray,List.set_cons_zero,List.set_cons_succ]
   refine wpAnyH_take (i:=10) (v:=undef) rfl (by kernel_rfl) (by kernel_rfl) (by kernel_rfl) (fun _ _ _ h=>nomatch h.1) (Or.inr ⟨by rfl,rfl⟩) (by assumption) ?_
   try simp only [Act.put,List.getElem_toArray,List.getElem_cons_zero,List.getElem_cons_succ,List.setIfInBounds_toArray,List.set_cons_zero,List.set_cons_succ]
   refine wpAnyH_take (i:=11) (v:=undef) rfl (by kernel_rfl) (by kernel_rfl) (by kernel_rfl) (fun _ _ _ h=>nomatch h.1) (Or.inr ⟨by rfl,rfl⟩) (by assumption) ?_
   try simp only [Act.put,List.getElem_toArray,List.getElem_cons_zero,List.getElem_cons_succ,List.setIfInBounds_toArray,List.set_cons_zero,List.set_cons_succ]
   refine wpAnyH_take (i:=12) (v:=undef) rfl (by kernel_rfl) (by kernel_rfl) (by kernel_rfl) (fun _ _ _ h=>nomatch h.1) (Or.inr ⟨by rfl,rfl⟩) (by assumption) ?_
   try simp only [Act.put,List.getElem_toArray,List.getElem_cons_zero,List.getElem_cons_succ,List.setIfInBounds_toArray,List.set_cons_zero,List.set_cons_succ]
   refine wpAnyH_take (i:=13) (v:=?_) rfl (by kernel_rfl) (by kernel_rfl) (by kernel_rfl) (fun _ _ _ h=>nomatch h.1) (Or.inl ⟨by rfl,?_⟩) (by assumption) ?_
   rotate_left
   ·intro w hSw
    try dsimp only at hSw
    go_split_ands
    go_simp
    try with_reducible rfl
   try simp only [Act.put,List.getElem_toArray,List.getElem_cons_zero,List.getElem_cons_succ,List.setIfInBounds_toArray,List.set_cons_zero,List.set_cons_succ]
   refine wpAnyH_done (by kernel_rfl) ?_ _
   refine ⟨rfl,?_⟩
   all_goals gi_wp2_with (gi_at_builtin; go_loud (refine wpListIn_append_own _ rfl _ _ 35 rfl (N1 + 3) 81 _ z81 4 32 u35 hi81 hz81 hs81 hb81 hc81 (by decide) _ _ _ rfl (zgi (hP3.drew hle).own _) ⟨W2.drew.heap.size,0,none⟩ 1 1 [.int .i64 m.ID.Node,.int .u64 m.ID.Seq,.int .i64 m.ID.Off,.int .i64 m.Until] rfl rfl ?c1 ?c2 ?c3 ?c4 ?c5 ?_))
   case c1=>exact zcp W2.drew (.int .i64 m.ID.Node) (.int .u64 m.ID.Seq) (.int .i64 m.ID.Off) (.int .i64 m.Until) 81
   case c2=>intro u hu; simp at hu; rcases hu with rfl | rfl | rfl | rfl <;> rfl
   case c3=>exact zpT hol
   case c4=>exact zpU hol
   case c5=>exact pc5 (hP3.drew hle).size _
   intro v2 W4 hown2 hg2 _
   obtain ⟨e4,g4⟩:=zpO (hP3.drew hle) _ hg2
   have hfo:=znm hle hq3.h (hP3.drew hle) (QO hVA3) _ hg2 m hown2 rfl
   obtain ⟨ba2,cap2,rfl⟩:∃ ba2 cap2,v2 = .slice ba2 (o.length + 1) cap2:=by
    obtain ⟨_,⟨rfl,h0⟩ | ⟨g,cap,cur,rfl,_⟩⟩:=hown2
    ·exact absurd h0 (Nat.succ_ne_zero _)
    ·exact ⟨_,_,rfl⟩
   have hfin:=And.intro hfo.1 (zr1 (z:=(0,ya,some ⟨g,og,none⟩,yn,yc)) hq.h q2.h hfo.2)
   clear hfo hown2 hg2 hol hP3 hVA3 hq q2 hq3 hRd hOn hCp hVs3 hMV hp9
   gi_wp2
   rw [hsz3]
   exact hfin
  | some p =>
   rw [hp] at q1
   obtain ⟨c,hc,q1'⟩:=bind_some q1
   clear q1
   obtain ⟨j,hj⟩:∃ j,o.length - 1 = j:=⟨_,rfl⟩
   rw [hj] at hp
   have hjo:j < o.length:=(List.getElem?_eq_some_iff.1 hp).1
   have hio:i = o.length:=hi1.h.trans q2.h.symm
   have hgt:(0:Int) < (i:Int):=by omega
   have hwr:wrap64 ((i:Int) - 1) = (j:Int):=by rw [IntWalk.wrap64_in _ (by omega)]; omega
   clear hio
   have hjl:=zt4 (n:=o.length) hjo
   obtain ⟨gb,gcap,hv,_⟩:=q3.last hp
   cases hv
   have hp9:=Zl.mk hp
   clear hp
   replace hj:=Zl.mk hj
   by_cases hc0:0 <= c
   case pos =>
    rw [if_pos hc0] at q1'
    have hq:Zl (out = []/\e1 = 19/\e2 = x.At):=by cases q1'; exact ⟨rfl,rfl,rfl⟩
    clear q1'
    gi_wp2_with (first | (refine ⟨trivial,?_⟩; gi_at_call 48; refine (CallsIn.inRound l (callsIn_wide.2 (hRd (V.alloc (Z9 x)) x.Text _ hVb hm))).mono ?_; rintro e W1 ⟨rfl,y1⟩; have hP1:=(PI.alloc hle q3 (Z9 x)).below hle y1; have hM1:=(y1.block _ hMs).trans hMa; have hX1:=(y1.block _ hXs).trans hXa; have hVA1:Below V.heap.size V W1:=yR ((Below.refl _ _).alloc (Nat.le_refl _) _) (by simp) y1; clear y1; have hP2:=PI.alloc hle hP1 (qb m); have hM2:=(Below.heap_alloc W1 (qb m) _ (Array.getElem?_eq_some_iff.1 hM1).1).trans hM1; have hX2:=(Below.heap_alloc W1 (qb m) _ (Array.getElem?_eq_some_iff.1 hX1).1).trans hX1; have hm2:=ahn W1 (qb m); have hVA2:=hVA1.alloc hVA1.size (qb m); clear hP1 hM1 hX1 hVA1; obtain ⟨a0,a1⟩:=Qj hM2; obtain ⟨b0,b1,b2⟩:=ZA hX2; obtain ⟨m0,m1,m2,m3⟩:=Q1 hm2; have hWb:Below w.heap.size w (W1.alloc (qb m)):=(by rw [hN]; exact hP2.bel); clear hMs hMa hXs hXa hVb q3 hVM hM2; replace hX2:=Zl.mk hX2; replace hm2:=Zl.mk hm2; simp only [qb] at a0 a1 b0 b1 b2 m0 m1 m2 m3; simp only [Q2]) | (refine ⟨trivial,?_⟩; gi_at_call 49; refine (CallsIn.inRound l (callsIn_wide.2 (hOn (W1.alloc (qb m)) m _ hWb hn))).mono ?_; rintro e W2 ⟨rfl,y2⟩; have hP3:=hP2.below hle y2; have hX3:=(y2.block _ (Array.getElem?_eq_some_iff.1 hX2.h).1).trans hX2.h; have hm3:=(y2.block _ (Array.getElem?_eq_some_iff.1 hm2.h).1).trans hm2.h; have hVA3:=yR hVA2 hVA2.size y2; clear y2 hP2 hX2 hm2 hVA2 hWb a0 a1 b0 b1 b2 m0 m1 m2 m3; obtain ⟨b0,b1,b2⟩:=ZA hX3; obtain ⟨m0,m1,m2,m3⟩:=Q1 hm3; obtain ⟨d4,f4⟩:=hP3.cell4; obtain ⟨p0,p1,p2⟩:=hP3.lastc hp9.h; replace hX3:=Zl.mk hX3; replace hm3:=Zl.mk hm3))
    have hgd:decide (0 < i) = true:=decide_eq_true (Int.natCast_pos.1 hgt)
    have hcd:decide ((0:Int) <= c) = true:=decide_eq_true hc0
    have hwr2:IntKind.i64.wrap ((i:Int) - 1) = (j:Int):=by have h1:=hi1.h; have h2:=q2.h; have h3:=hj.h; rw [IntKind.wrap_i64]; omega
    have hjd:((0:Int) <= (j:Int)/\(j:Int) < (o.length:Int)) = True:=eq_true ⟨Int.natCast_nonneg _,hjl⟩
    have hWd:Below w.heap.size w W2.drew:=(by rw [hN]; exact QO hP3.bel)
    refine zaT (S:=(fun w':World=>w'.cell? ⟨N1 + 1,0,none⟩ = some (.slice (some ⟨gb,0,none⟩) o.length vcap)/\w'.cell? ⟨gb,j * 4,none⟩ = some (.int .i64 p.ID.Node)/\w'.cell? ⟨gb,j * 4 + 1,none⟩ = some (.int .u64 p.ID.Seq)/\w'.cell? ⟨gb,j * 4 + 2,none⟩ = some (.int .i64 p.ID.Off)/\w'.cell? ⟨W1.heap.size,0,none⟩ = some (.int .i64 m.ID.Node)/\w'.cell? ⟨W1.heap.size,1,none⟩ = some (.int .u64 m.ID.Seq)/\w'.cell? ⟨W1.heap.size,2,none⟩ = some (.int .i64 m.ID.Off))) (by kernel_rfl) (by kernel_rfl) ⟨d4,p0,p1,p2,m0,m1,m2⟩ (fun hHeld=>?_)
    refine wpAnyH_take (i:=0) (v:=?_) rfl (by kernel_rfl) (by kernel_rfl) (by kernel_rfl) (fun _ _ _ h=>nomatch h.1) (Or.inl ⟨by rfl,?_⟩) (by assumption) ?_
    rotate_left
    ·intro w hSw
     try dsimp only at hSw
     go_split_ands
     go_simp
     try with_reducible rfl
    try simp only [hgd,hcd,hwr2,Act.put,List.getElem_toArray,List.getElem_cons_zero,List.getElem_cons_succ,List.setIfInBounds_toArray,List.set_cons_zero,List.set_cons_succ]
    refine wpAnyH_take (i:=1) (v:=?_) rfl (by kernel_rfl) (by kernel_rfl) (by kernel_rfl) (fun _ _ _ h=>nomatch h.1) (Or.inl ⟨by rfl,?_⟩) (by assumption) ?_
    rotate_left
    ·intro w hSw
     try dsimp only at hSw
     go_split_ands
     go_simp
     try with_reducible rfl
    try simp only [hgd,hcd,hwr2,Act.put,List.getElem_toArray,List.getElem_cons_zero,List.getElem_cons_succ,List.setIfInBounds_toArray,List.set_cons_zero,List.set_cons_succ]
    refine wpAnyH_take (i:=2) (v:=?_) rfl (by kernel_rfl) (by kernel_rfl) (by kernel_rfl) (fun _ _ _ h=>nomatch h.1) (Or.inl ⟨by rfl,?_⟩) (by assumption) ?_
    rotate_left
    ·intro w hSw
     try dsimp only at hSw
     go_split_ands
     go_simp
     try with_reducible rfl
    try simp only [hgd,hcd,hwr2,Act.put,List.getElem_toArray,List.getElem_cons_zero,List.getElem_cons_succ,List.setIfInBounds_toArray,List.set_cons_zero,List.set_cons_succ]
    refine wpAnyH_take (i:=3) (v:=?_) rfl (by kernel_rfl) (by kernel_rfl) (by kernel_rfl) (fun _ _ _ h=>nomatch h.1) (Or.inl ⟨by rfl,?_⟩) (by assumption) ?_
    rotate_left
    ·intro w hSw
     try dsimp only at hSw
     go_split_ands
     go_simp
     try with_reducible rfl
    try simp only [hgd,hcd,hwr2,Act.put,List.getElem_toArray,List.getElem_cons_zero,List.getElem_cons_succ,List.setIfInBounds_toArray,List.set_cons_zero,List.set_cons_succ]
    refine wpAnyH_take (i:=4) (v:=?_) rfl (by kernel_rfl) (by kernel_rfl) (by kernel_rfl) (fun _ _ _ h=>nomatch h.1) (Or.inl ⟨by rfl,?_⟩) (by assumption) ?_
    rotate_left
    ·intro w hSw
     try dsimp only at hSw
     go_split_ands
     go_simp
     try with_reducible rfl
    try simp only [hgd,hcd,hwr2,Act.put,List.getElem_toArray,List.getElem_cons_zero,List.getElem_cons_succ,List.setIfInBounds_toArray,List.set_cons_zero,List.set_cons_succ]
    refine wpAnyH_take (i:=5) (v:=?_) rfl (by kernel_rfl) (by kernel_rfl) (by kernel_rfl) (fun _ _ _ h=>nomatch h.1) (Or.inl ⟨by rfl,?_⟩) (by assumption) ?_
    rotate_left
    ·intro w hSw
     try dsimp only at hSw
     go_split_ands
     go_simp
     try with_reducible rfl
    try simp only [hgd,hcd,hwr2,Act.put,List.getElem_toArray,List.getElem_cons_zero,List.getElem_cons_succ,List.setIfInBounds_toArray,List.set_cons_zero,List.set_cons_succ]
    refine wpAnyH_take (i:=6) (v:=?_) rfl (by kernel_rfl) (by kernel_rfl) (by kernel_rfl) (fun _ _ _ h=>nomatch h.1) (Or.inl ⟨by rfl,?_⟩) (by assumption) ?_
    rotate_left
    ·intro w hSw
     try dsimp only at hSw
     go_split_ands
     go_simp
     try with_reducible rfl
    try simp only [hgd,hcd,hwr2,Act.put,List.getElem_toArray,List.getElem_cons_zero,List.getElem_cons_succ,List.setIfInBounds_toArray,List.set_cons_zero,List.set_cons_succ]
    refine wpAnyH_take (i:=7) (v:=?_) rfl (by kernel_rfl) (by kernel_rfl) (by kernel_rfl) (fun _ _ _ h=>nomatch h.1) (Or.inl ⟨by rfl,?_⟩) (by assumption) ?_
    rotate_left
    ·intro w hSw
     try dsimp only at hSw
     go_split_ands
     go_simp
     try with_reducible rfl
    try simp only [hgd,hcd,hwr2,Act.put,List.getElem_toArray,List.getElem_cons_zero,List.getElem_cons_succ,List.setIfInBounds_toArray,List.set_cons_zero,List.set_cons_succ]
    refine wpAnyH_take (i:=8) (v:=?_) rfl (by kernel_rfl) (by kernel_rfl) (by kernel_rfl) (fun _ _ _ h=>nomatch h.1) (Or.inl ⟨by rfl,?_⟩) (by assumption) ?_
    rotate_left
    ·intro w hSw
     try dsimp only at hSw
     go_split_ands
     go_simp
     try with_reducible rfl
    try simp only [hgd,hcd,hwr2,Act.put,List.getElem_toArray,List.getElem_cons_zero,List.getElem_cons_succ,List.setIfInBounds_toArray,List.set_cons_zero,List.set_cons_succ]
    refine wpAnyH_take (i:=9) (v:=?_) rfl (by kernel_rfl) (by kernel_rfl) (by kernel_rfl) (fun _ _ _ h=>nomatch h.1) (Or.inl ⟨by rfl,?_⟩) (by assumption) ?_
    rotate_left
    ·intro w hSw
     try dsimp only at hSw
     go_split_ands
     go_simp
     try with_reducible rfl
    try simp only [hgd,hcd,hwr2,Act.put,List.getElem_toArray,List.getElem_cons_zero,List.getElem_cons_succ,List.setIfInBounds_toArray,List.set_cons_zero,List.set_cons_succ]
    refine wpAnyH_take (i:=10) (v:=?_) rfl (by kernel_rfl) (by kernel_rfl) (by kernel_rfl) (fun _ _ _ h=>nomatch h.1) (Or.inl ⟨by rfl,?_⟩) (by assumption) ?_
    rotate_left
    ·intro w hSw
     try dsimp only at hSw
     go_split_ands
     go_simp
     try with_reducible rfl
    try simp only [hgd,hcd,hwr2,Act.put,List.getElem_toArray,List.getElem_cons_zero,List.getElem_cons_succ,List.setIfInBounds_toArray,List.set_cons_zero,List.set_cons_succ]
    refine wpAnyH_ready (rs:=[11]) (by kernel_rfl) (by simp) ?_
    refine AllReadyH.cons rfl (fun K hK=>?_) AllReadyH.nil
    rw [if_pos (by rfl)]
    go_simp
    go_at_call 50
    refine (hCp W2.drew p.ID m.ID c hWd hc).mono ?_
    rintro e W3 ⟨rfl,y3⟩
    have hHeld1:=hHeld
    obtain ⟨s0,s1,s2,s3,s4,s5,s6⟩:=hHeld1
    refine hK.out _ _ ⟨zaa y3 s0,zaa y3 s1,zaa y3 s2,zaa y3 s3,zaa y3 s4,zaa y3 s5,zaa y3 s6⟩ (fun hHeld2=>?_)
    clear hHeld s0 s1 s2 s3 s4 s5 s6
    try simp only [hgd,hcd,hwr2,Act.put,List.getElem_toArray,List.getElem_cons_zero,List.getElem_cons_succ,List.setIfInBounds_toArray,List.set_cons_zero,List.set_cons_succ]
    refine wpAnyH_take (i:=12) (v:=?_) rfl (by kernel_rfl) (by kernel_rfl) (by kernel_rfl) (fun _ _ _ h=>nomatch h.1) (Or.inl ⟨by rfl,?_⟩) (by assumption) ?_
    rotate_left
    ·intro w hSw
     try dsimp only at hSw
     go_split_ands
     go_simp
     try with_reducible rfl
    try simp only [hgd,hcd,hwr2,Act.put,List.getElem_toArray,List.getElem_cons_zero,List.getElem_cons_succ,List.setIfInBounds_toArray,List.set_cons_zero,List.set_cons_succ]
    refine wpAnyH_take (i:=13) (v:=?_) rfl (by kernel_rfl) (by kernel_rfl) (by kernel_rfl) (fun _ _ _ h=>nomatch h.1) (Or.inl ⟨by rfl,?_⟩) (by assumption) ?_
    rotate_left
    ·intro w hSw
     try dsimp only at hSw
     go_split_ands
     go_simp
     try with_reducible rfl
    try simp only [hgd,hcd,hwr2,Act.put,List.getElem_toArray,List.getElem_cons_zero,List.getElem_cons_succ,List.setIfInBounds_toArray,List.set_cons_zero,List.set_cons_succ]
    refine wpAnyH_done (by kernel_rfl) ?_ _
    refine ⟨rfl,?_⟩
    have hP4:=(hP3.drew hle).below hle y3
    have hX4:=(y3.block _ (Array.getElem?_eq_some_iff.1 hX3.h).1).trans hX3.h
    have hm4:=(y3.block _ (Array.getElem?_eq_some_iff.1 hm3.h).1).trans hm3.h
    have hVA4:=yR (QO hVA3) hVA3.size y3
    clear hHeld2 y3 hP3 hX3 hm3 hVA3 hWd d4 f4 p0 p1 p2 m0 m1 m2 m3 b0 b1 b2
    obtain ⟨b0,b1,b2⟩:=ZA hX4
    obtain ⟨d2,f2⟩:=hP4.cell2
    obtain ⟨d3,d3',f3,f3'⟩:=hP4.cell3
    clear hX4 hm4
    all_goals gi_wp2
    gi_region
    all_goals gi_wp2
    all_goals
     obtain ⟨r1,r2,r3⟩:=hq.h
     have hf:=zbE (B:=((((W3.setCell ⟨N,0,none⟩ (.slice none 0 0)).setCell ⟨N + 1,0,none⟩ (.int .i64 19)).setCell ⟨N + 1,1,none⟩ (.int .i64 x.At))).drew) hN.symm hle hVs3 hP4 hVA4 19 x.At rfl rfl rfl rfl
     rw [hsz3]
     refine ⟨hf.1,rfl,r1,hf.2.1,hf.2.2.1,hf.2.2.2.1,?_⟩
     rw [r2,r3]
     exact hf.2.2.2.2
   case neg =>
    rw [if_neg hc0] at q1'
    have hq:=Zl.mk q1'
    clear q1'
    obtain ⟨i81,z81,u35,hi81,hz81,hs81,hb81,hc81⟩:=zpS
    gi_wp2_with (first | (refine ⟨trivial,?_⟩; gi_at_call 48; refine (CallsIn.inRound l (callsIn_wide.2 (hRd (V.alloc (Z9 x)) x.Text _ hVb hm))).mono ?_; rintro e W1 ⟨rfl,y1⟩; have hP1:=(PI.alloc hle q3 (Z9 x)).below hle y1; have hM1:=(y1.block _ hMs).trans hMa; have hX1:=(y1.block _ hXs).trans hXa; have hVA1:Below V.heap.size V W1:=yR ((Below.refl _ _).alloc (Nat.le_refl _) _) (by simp) y1; clear y1; have hP2:=PI.alloc hle hP1 (qb m); have hM2:=(Below.heap_alloc W1 (qb m) _ (Array.getElem?_eq_some_iff.1 hM1).1).trans hM1; have hX2:=(Below.heap_alloc W1 (qb m) _ (Array.getElem?_eq_some_iff.1 hX1).1).trans hX1; have hm2:=ahn W1 (qb m); have hVA2:=hVA1.alloc hVA1.size (qb m); clear hP1 hM1 hX1 hVA1; obtain ⟨a0,a1⟩:=Qj hM2; obtain ⟨b0,b1,b2⟩:=ZA hX2; obtain ⟨m0,m1,m2,m3⟩:=Q1 hm2; have hWb:Below w.heap.size w (W1.alloc (qb m)):=(by rw [hN]; exact hP2.bel); clear hMs hMa hXs hXa hVb q3 hVM hM2; replace hX2:=Zl.mk hX2; replace hm2:=Zl.mk hm2; simp only [qb] at a0 a1 b0 b1 b2 m0 m1 m2 m3; simp only [Q2]) | (refine ⟨trivial,?_⟩; gi_at_call 49; refine (CallsIn.inRound l (callsIn_wide.2 (hOn (W1.alloc (qb m)) m _ hWb hn))).mono ?_; rintro e W2 ⟨rfl,y2⟩; have hP3:=hP2.below hle y2; have hX3:=(y2.block _ (Array.getElem?_eq_some_iff.1 hX2.h).1).trans hX2.h; have hm3:=(y2.block _ (Array.getElem?_eq_some_iff.1 hm2.h).1).trans hm2.h; have hVA3:=yR hVA2 hVA2.size y2; clear y2 hP2 hX2 hm2 hVA2 hWb a0 a1 b0 b1 b2 m0 m1 m2 m3; obtain ⟨b0,b1,b2⟩:=ZA hX3; obtain ⟨m0,m1,m2,m3⟩:=Q1 hm3; obtain ⟨d4,f4⟩:=hP3.cell4; obtain ⟨p0,p1,p2⟩:=hP3.lastc hp9.h; replace hX3:=Zl.mk hX3; replace hm3:=Zl.mk hm3))
    have hgd:decide (0 < i) = true:=decide_eq_true (Int.natCast_pos.1 hgt)
    have hcd:decide ((0:Int) <= c) = false:=decide_eq_false (Int.not_le.2 hc0)
    have hwr2:IntKind.i64.wrap ((i:Int) - 1) = (j:Int):=by have h1:=hi1.h; have h2:=q2.h; have h3:=hj.h; rw [IntKind.wrap_i64]; omega
    have hjd:((0:Int) <= (j:Int)/\(j:Int) < (o.length:Int)) = True:=eq_true ⟨Int.natCast_nonneg _,hjl⟩
    have hWd:Below w.heap.size w W2.drew:=(by rw [hN]; exact QO hP3.bel)
    refine zaT (S:=(fun w':World=>w'.cell? ⟨N1 + 1,0,none⟩ = some (.slice (some ⟨gb,0,none⟩) o.length vcap)/\w'.cell? ⟨gb,j * 4,none⟩ = some (.int .i64 p.ID.Node)/\w'.cell? ⟨gb,j * 4 + 1,none⟩ = some (.int .u64 p.ID.Seq)/\w'.cell? ⟨gb,j * 4 + 2,none⟩ = some (.int .i64 p.ID.Off)/\w'.cell? ⟨W1.heap.size,0,none⟩ = some (.int .i64 m.ID.Node)/\w'.cell? ⟨W1.heap.size,1,none⟩ = some (.int .u64 m.ID.Seq)/\w'.cell? ⟨W1.heap.size,2,none⟩ = some (.int .i64 m.ID.Off))) (by kernel_rfl) (by kernel_rfl) ⟨d4,p0,p1,p2,m0,m1,m2⟩ (fun hHeld=>?_)
    refine wpAnyH_take (i:=0) (v:=?_) rfl (by kernel_rfl) (by kernel_rfl) (by kernel_rfl) (fun _ _ _ h=>nomatch h.1) (Or.inl ⟨by rfl,?_⟩) (by assumption) ?_
    rotate_left
    ·intro w hSw
     try dsimp only at hSw
     go_split_ands
     go_simp
     try with_reducible rfl
    try simp only [hgd,hcd,hwr2,Act.put,List.getElem_toArray,List.getElem_cons_zero,List.getElem_cons_succ,List.setIfInBounds_toArray,List.set_cons_zero,List.set_cons_succ]
    refine wpAnyH_take (i:=1) (v:=?_) rfl (by kernel_rfl) (by kernel_rfl) (by kernel_rfl) (fun _ _ _ h=>nomatch h.1) (Or.inl ⟨by rfl,?_⟩) (by assumption) ?_
    rotate_left
    ·intro w hSw
     try dsimp only at hSw
     go_split_ands
     go_simp
     try with_reducible rfl
    try simp only [hgd,hcd,hwr2,Act.put,List.getElem_toArray,List.getElem_cons_zero,List.getElem_cons_succ,List.setIfInBounds_toArray,List.set_cons_zero,List.set_cons_succ]
    refine wpAnyH_take (i:=2) (v:=?_) rfl (by kernel_rfl) (by kernel_rfl) (by kernel_rfl) (fun _ _ _ h=>nomatch h.1) (Or.inl ⟨by rfl,?_⟩) (by assumption) ?_
    rotate_left
    ·intro w hSw
     try dsimp only at hSw
     go_split_ands
     go_simp
     try with_reducible rfl
    try simp only [hgd,hcd,hwr2,Act.put,List.getElem_toArray,List.getElem_cons_zero,List.getElem_cons_succ,List.setIfInBounds_toArray,List.set_cons_zero,List.set_cons_succ]
    refine wpAnyH_take (i:=3) (v:=?_) rfl (by kernel_rfl) (by kernel_rfl) (by kernel_rfl) (fun _ _ _ h=>nomatch h.1) (Or.inl ⟨by rfl,?_⟩) (by assumption) ?_
    rotate_left
    ·intro w hSw
     try dsimp only at hSw
     go_split_ands
     go_simp
     try with_reducible rfl
    try simp only [hgd,hcd,hwr2,Act.put,List.getElem_toArray,List.getElem_cons_zero,List.getElem_cons_succ,List.setIfInBounds_toArray,List.set_cons_zero,List.set_cons_succ]
    refine wpAnyH_take (i:=4) (v:=?_) rfl (by kernel_rfl) (by kernel_rfl) (by kernel_rfl) (fun _ _ _ h=>nomatch h.1) (Or.inl ⟨by rfl,?_⟩) (by assumption) ?_
    rotate_left
    ·intro w hSw
     try dsimp only at hSw
     go_split_ands
     go_simp
     try with_reducible rfl
    try simp only [hgd,hcd,hwr2,Act.put,List.getElem_toArray,List.getElem_cons_zero,List.getElem_cons_succ,List.setIfInBounds_toArray,List.set_cons_zero,List.set_cons_succ]
    refine wpAnyH_take (i:=5) (v:=?_) rfl (by kernel_rfl) (by kernel_rfl) (by kernel_rfl) (fun _ _ _ h=>nomatch h.1) (Or.inl ⟨by rfl,?_⟩) (by assumption) ?_
    rotate_left
    ·intro w hSw
     try dsimp only at hSw
     go_split_ands
     go_simp
     try with_reducible rfl
    try simp only [hgd,hcd,hwr2,Act.put,List.getElem_toArray,List.getElem_cons_zero,List.getElem_cons_succ,List.setIfInBounds_toArray,List.set_cons_zero,List.set_cons_succ]
    refine wpAnyH_take (i:=6) (v:=?_) rfl (by kernel_rfl) (by kernel_rfl) (by kernel_rfl) (fun _ _ _ h=>nomatch h.1) (Or.inl ⟨by rfl,?_⟩) (by assumption) ?_
    rotate_left
    ·intro w hSw
     try dsimp only at hSw
     go_split_ands
     go_simp
     try with_reducible rfl
    try simp only [hgd,hcd,hwr2,Act.put,List.getElem_toArray,List.getElem_cons_zero,List.getElem_cons_succ,List.setIfInBounds_toArray,List.set_cons_zero,List.set_cons_succ]
    refine wpAnyH_take (i:=7) (v:=?_) rfl (by kernel_rfl) (by kernel_rfl) (by kernel_rfl) (fun _ _ _ h=>nomatch h.1) (Or.inl ⟨by rfl,?_⟩) (by assumption) ?_
    rotate_left
    ·intro w hSw
     try dsimp only at hSw
     go_split_ands
     go_simp
     try with_reducible rfl
    try simp only [hgd,hcd,hwr2,Act.put,List.getElem_toArray,List.getElem_cons_zero,List.getElem_cons_succ,List.setIfInBounds_toArray,List.set_cons_zero,List.set_cons_succ]
    refine wpAnyH_take (i:=8) (v:=?_) rfl (by kernel_rfl) (by kernel_rfl) (by kernel_rfl) (fun _ _ _ h=>nomatch h.1) (Or.inl ⟨by rfl,?_⟩) (by assumption) ?_
    rotate_left
    ·intro w hSw
     try dsimp only at hSw
     go_split_ands
     go_simp
     try with_reducible rfl
    try simp only [hgd,hcd,hwr2,Act.put,List.getElem_toArray,List.getElem_cons_zero,List.getElem_cons_succ,List.setIfInBounds_toArray,List.set_cons_zero,List.set_cons_succ]
    refine wpAnyH_take (i:=9) (v:=?_) rfl (by kernel_rfl) (by kernel_rfl) (by kernel_rfl) (fun _ _ _ h=>nomatch h.1) (Or.inl ⟨by rfl,?_⟩) (by assumption) ?_
    rotate_left
    ·intro w hSw
     try dsimp only at hSw
     go_split_ands
     go_simp
     try with_reducible rfl
    try simp only [hgd,hcd,hwr2,Act.put,List.getElem_toArray,List.getElem_cons_zero,List.getElem_cons_succ,List.setIfInBounds_toArray,List.set_cons_zero,List.set_cons_succ]
    refine wpAnyH_take (i:=10) (v:=?_) rfl (by kernel_rfl) (by kernel_rfl) (by kernel_rfl) (fun _ _ _ h=>nomatch h.1) (Or.inl ⟨by rfl,?_⟩) (by assumption) ?_
    rotate_left
    ·intro w hSw
     try dsimp only at hSw
     go_split_ands
     go_simp
     try with_reducible rfl
    try simp only [hgd,hcd,hwr2,Act.put,List.getElem_toArray,List.getElem_cons_zero,List.getElem_cons_succ,List.setIfInBounds_toArray,List.set_cons_zero,List.set_cons_succ]
    refine wpAnyH_ready (rs:=[11]) (by kernel_rfl) (by simp) ?_
    refine AllReadyH.cons rfl (fun K hK=>?_) AllReadyH.nil
    rw [if_pos (by rfl)]
    go_simp
    go_at_call 50
    refine (hCp W2.drew p.ID m.ID c hWd hc).mono ?_
    rintro e W3 ⟨rfl,y3⟩
    have hHeld1:=hHeld
    obtain ⟨s0,s1,s2,s3,s4,s5,s6⟩:=hHeld1
    refine hK.out _ _ ⟨zaa y3 s0,zaa y3 s1,zaa y3 s2,zaa y3 s3,zaa y3 s4,zaa y3 s5,zaa y3 s6⟩ (fun hHeld2=>?_)
    clear hHeld s0 s1 s2 s3 s4 s5 s6
    try simp only [hgd,hcd,hwr2,Act.put,List.getElem_toArray,List.getElem_cons_zero,List.getElem_cons_succ,List.setIfInBounds_toArray,List.set_cons_zero,List.set_cons_succ]
    refine wpAnyH_take (i:=12) (v:=?_) rfl (by kernel_rfl) (by kernel_rfl) (by kernel_rfl) (fun _ _ _ h=>nomatch h.1) (Or.inl ⟨by rfl,?_⟩) (by assumption) ?_
    rotate_left
    ·intro w hSw
     try dsimp only at hSw
     go_split_ands
     go_simp
     try with_reducible rfl
    try simp only [hgd,hcd,hwr2,Act.put,List.getElem_toArray,List.getElem_cons_zero,List.getElem_cons_succ,List.setIfInBounds_toArray,List.set_cons_zero,List.set_cons_succ]
    refine wpAnyH_take (i:=13) (v:=?_) rfl (by kernel_rfl) (by kernel_rfl) (by kernel_rfl) (fun _ _ _ h=>nomatch h.1) (Or.inl ⟨by rfl,?_⟩) (by assumption) ?_
    rotate_left
    ·intro w hSw
     try dsimp only at hSw
     go_split_ands
     go_simp
     try with_reducible rfl
    try simp only [hgd,hcd,hwr2,Act.put,List.getElem_toArray,List.getElem_cons_zero,List.getElem_cons_succ,List.setIfInBounds_toArray,List.set_cons_zero,List.set_cons_succ]
    refine wpAnyH_done (by kernel_rfl) ?_ _
    refine ⟨rfl,?_⟩
    have hP4:=(hP3.drew hle).below hle y3
    have hX4:=(y3.block _ (Array.getElem?_eq_some_iff.1 hX3.h).1).trans hX3.h
    have hm4:=(y3.block _ (Array.getElem?_eq_some_iff.1 hm3.h).1).trans hm3.h
    have hVA4:=yR (QO hVA3) hVA3.size y3
    clear hHeld2 y3 hP3 hX3 hm3 hVA3 hWd d4 f4 p0 p1 p2 m0 m1 m2 m3 b0 b1 b2
    obtain ⟨m0,m1,m2,m3⟩:=Q1 hm4
    obtain ⟨d4,f4⟩:=hP4.cell4
    clear hX4 hm4
    all_goals gi_wp2_with (gi_at_builtin; go_loud (refine wpListIn_append_own _ rfl _ _ 35 rfl (N1 + 3) 81 _ z81 4 32 u35 hi81 hz81 hs81 hb81 hc81 (by decide) _ _ _ rfl (zgi hP4.own _) ⟨W3.heap.size,0,none⟩ 1 1 [.int .i64 m.ID.Node,.int .u64 m.ID.Seq,.int .i64 m.ID.Off,.int .i64 m.Until] rfl rfl ?c1 ?c2 ?c3 ?c4 ?c5 ?_))
    case c1=>exact zcp W3 (.int .i64 m.ID.Node) (.int .u64 m.ID.Seq) (.int .i64 m.ID.Off) (.int .i64 m.Until) 81
    case c2=>intro u hu; simp at hu; rcases hu with rfl | rfl | rfl | rfl <;> rfl
    case c3=>exact zpT hol
    case c4=>exact zpU hol
    case c5=>exact pc5 hP4.size _
    intro v2 W4 hown2 hg2 _
    obtain ⟨e4,g4⟩:=zpO hP4 _ hg2
    have hfo:=znm hle hq3.h hP4 hVA4 _ hg2 m hown2 rfl
    obtain ⟨ba2,cap2,rfl⟩:∃ ba2 cap2,v2 = .slice ba2 (o.length + 1) cap2:=by
     obtain ⟨_,⟨rfl,h0⟩ | ⟨g,cap,cur,rfl,_⟩⟩:=hown2
     ·exact absurd h0 (Nat.succ_ne_zero _)
     ·exact ⟨_,_,rfl⟩
    have hfin:=And.intro hfo.1 (zr1 (z:=(i,ya,some ⟨g,og,none⟩,yn,yc)) hq.h q2.h hfo.2)
    clear hfo hown2 hg2 hol hP4 hVA4 hq q2 hq3 hRd hOn hCp hVs3 hMV hp9
    gi_wp2
    rw [hsz3]
    exact hfin
 case done =>
  rintro D W hD ⟨o,v,q1,q2,q3⟩ hK
  have hlen:(zcl 0 vs).length = rs.length:=by rw [zku]; exact x2'.symm
  rw [hlen,List.drop_length] at q1
  simp only [psF,Option.some.injEq,Prod.mk.injEq] at q1
  obtain ⟨rfl,rfl,rfl⟩:=q1
  obtain ⟨ba,cap2,rfl⟩:∃ ba cap2,v = .slice ba o.length cap2:=by
   obtain ⟨_,⟨rfl,h0⟩ | ⟨g,cap,cur,rfl,_⟩⟩:=q3.own
   ·exact ⟨none,0,by rw [h0]⟩
   ·exact ⟨_,_,rfl⟩
  obtain ⟨d4,f4⟩:=q3.cell4
  obtain ⟨d2,f2⟩:=q3.cell2
  obtain ⟨d3,d3',f3,f3'⟩:=q3.cell3
  clear hRd hOn hCp q2 hres hr3 x4 x2'
  gi_wp2
  obtain ⟨r0,r1,r2,r3,r4⟩:=zpR hle q3 0 0
  have hK':=(r4 D (by omega)).trans hK
  obtain ⟨l0,l1,l2⟩:=zpQ (D:=D) (by omega) r0 r1
  refine ⟨by simp,.inl ⟨_,_,rfl,run_takeDeferred hK',?_⟩⟩
  refine ⟨.tuple #[.slice ba o.length cap2,.agg #[.int .i64 0,.int .i64 0]],?_,.slice ba o.length cap2,rfl,?_,?_⟩
  ·simp [results,Tryz.f16,go_sem,l0,l1,l2]
  ·rw [hN]; exact Y4 (zpP r3 hK' rfl _) (by omega)
  ·rw [hN]; exact zgj r2 (by omega) _
 case stop =>
  rintro D c pre W hD ⟨rfl,rfl,q2,q3,q4,q5⟩ hK
  clear hRd hOn hCp hres hr3 x4
  gi_wp2
  obtain ⟨l0,l1,l2⟩:=zpQ (D:=D) (by omega) q4 q5
  refine ⟨by simp,.inl ⟨_,_,rfl,run_takeDeferred hK,?_⟩⟩
  refine ⟨.tuple #[.slice none 0 0,.agg #[.int .i64 e1,.int .i64 e2]],?_,.slice none 0 0,rfl,World.ownsRow_nil _ _ _ _,?_⟩
  ·simp [results,Tryz.f16,go_sem,l0,l1,l2]
  ·rw [hN]; exact zgj q2 (by omega) _
end Go.Seq
