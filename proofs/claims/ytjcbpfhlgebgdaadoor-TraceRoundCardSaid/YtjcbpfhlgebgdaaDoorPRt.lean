import Derived.Test.YtjcbpfhlgebgdaaDoorPRk
import Derived.Test.YtjcbpfhlgebgdaaDoorXO
set_option linter.unusedSimpArgs false
set_option linter.unusedVariables false
namespace Go.Proofs.YtjcbpfhlgebgdaaDoor
open Go Go.Eng Go.RowKit Go.X Go.Seq
theorem W_T {α:Type} {b:Bool} {x y:Option α} {Q:α→Prop} (h:b = true) (k:W x Q):W (br b x y) Q:=by rw [h]; exact k
set_option maxHeartbeats 2000000 in
theorem known_w:packhorselaw39_TraceKnown () = some true:=by
 refine W.eq ?_
 unfold packhorselaw39_TraceKnown
 simp only [bk1,bk2,both_self]
 refine W_eq shown_w ?_
 refine W_eq of_w ?_
 dsimp only
 refine W_eq shown_w ?_
 refine W_eq at_shown ?_
 dsimp only
 refine W_eq shown_w ?_
 refine W_eq count_shown ?_
 dsimp only
 refine W_eq shown_w ?_
 refine W_eq (a:=⟨8,1,7,⟨1,7,0⟩,2⟩) rfl ?_
 refine W_eq (a:=⟨8,2,6,⟨1,7,0⟩,1⟩) rfl ?_
 refine W_T (by kernel_rfl) ?_
 refine W_eq (a:=⟨8,2,6,⟨1,7,0⟩,1⟩) rfl ?_
 refine W_T (by kernel_rfl) ?_
 refine W_eq (a:=⟨8,1,7,⟨1,7,0⟩,2⟩) (by kernel_rfl) ?_
 refine W_eq shown_w ?_
 have e1:setI (setI shownL (1:Int) ⟨8,1,7,⟨1,7,0⟩,2⟩) (2:Int) ⟨8,2,6,⟨1,7,0⟩,1⟩ = turnedL:=by kernel_rfl
 rw [e1]
 refine W_eq same_turned ?_
 dsimp only
 refine W_eq shown_w ?_
 refine W_eq (a:=⟨8,2,6,⟨1,7,0⟩,1⟩) rfl ?_
 refine W_eq (a:=⟨5,1,1,⟨1,7,0⟩,0⟩) rfl ?_
 refine W_T (by kernel_rfl) ?_
 refine W_eq (a:=⟨5,1,1,⟨1,7,0⟩,0⟩) rfl ?_
 refine W_T (by kernel_rfl) ?_
 refine W_eq (a:=⟨8,2,6,⟨1,7,0⟩,1⟩) (by kernel_rfl) ?_
 refine W_eq shown_w ?_
 have e2:setI (setI shownL (0:Int) ⟨8,2,6,⟨1,7,0⟩,1⟩) (1:Int) ⟨5,1,1,⟨1,7,0⟩,0⟩ = wrongL:=by kernel_rfl
 rw [e2]
 refine W_eq same_wrong ?_
 dsimp only
 refine W_eq shown_w ?_
 refine W_eq latency8_w ?_
 dsimp only
 refine W_eq shown_w ?_
 refine W_eq latency0_w ?_
 dsimp only
 refine W_eq ints_w ?_
 refine W_T rfl ?_
 refine W_T (by kernel_rfl) ?_
 refine W_T rfl ?_
 refine W_T rfl ?_
 refine W_eq (a:=⟨8,2,6,⟨1,7,0⟩,1⟩) rfl ?_
 refine W_eq shown_w ?_
 refine W_eq (a:=⟨8,2,6,⟨1,7,0⟩,1⟩) rfl ?_
 refine W_T rfl ?_
 refine W_eq (a:=⟨9,2,8,⟨1,7,0⟩,0⟩) rfl ?_
 refine W_eq shown_w ?_
 refine W_eq (a:=⟨9,2,8,⟨1,7,0⟩,0⟩) rfl ?_
 refine W_eq awake_w ?_
 refine W_T rfl ?_
 refine W_T rfl ?_
 refine W_T rfl ?_
 refine W_T rfl ?_
 refine W_T rfl ?_
 refine W_T rfl ?_
 refine W_T rfl ?_
 refine W_T rfl ?_
 refine W_T rfl ?_
 refine W_eq crashed_w ?_
 refine W_T rfl ?_
 refine W_eq took_w ?_
 refine W_T rfl ?_
 refine W_eq node0_w ?_
 refine W_T rfl ?_
 refine W_eq flown_w ?_
 exact W_ret rfl
theorem rows_cnt:∀ (ps:List (List UInt8)) (o:List (Int × List Wd)) (a:Int) (r:List (Int × List Wd) × Int × Int),rowsF lineF ps o a = some r→r.1.length ≤ o.length + (ps.filter fun p=>!p.isEmpty).length
 | [],o,a,r,h=>by cases h; simp
 | p :: ps,o,a,r,h=>by
  rw [rowsF] at h
  split at h
  ·cases h; simp
  ·obtain ⟨ws,hw,h⟩:=Option.bind_eq_some_iff.1 h
   split at h
   ·cases h; simp
   ·have ih:=rows_cnt ps _ _ r h
    cases p with
    | nil =>
     have h0:lineF [] = some []:=line_back (ws:=[]) (fun w hw=>by cases hw) (by simp [joinW])
     rw [h0] at hw
     cases hw
     rw [if_pos rfl] at ih
     simpa using ih
    | cons c p =>
     rw [List.filter_cons,if_pos (by rfl),List.length_cons]
     split at ih
     ·omega
     ·rw [List.length_append,List.length_cons,List.length_nil] at ih
      omega
theorem pieces_cnt (c:UInt8):∀ l:List UInt8,∃ p ps,pieces c l = p :: ps∧2 * (ps.filter fun p=>!p.isEmpty).length + p.length ≤ l.length
 | []=>⟨[],[],rfl,by simp⟩
 | x :: l=>by
  obtain ⟨p,ps,e,h⟩:=pieces_cnt c l
  unfold pieces
  split
  ·refine ⟨[],_,rfl,?_⟩
   rw [e]
   cases p with
   | nil=>rw [List.filter_cons,if_neg (by simp)]; simp only [List.length_nil,List.length_cons] at h ⊢; omega
   | cons y p=>rw [List.filter_cons,if_pos (by rfl)]; simp only [List.length_nil,List.length_cons] at h ⊢; omega
  ·rw [e]
   exact ⟨x :: p,ps,rfl,by simp only [List.length_cons]; omega⟩
theorem rows_len {x:List UInt8} {r:List Row × Fault} (h:words_Rows x = some r):2 * r.1.length ≤ x.length + 1:=by
 unfold words_Rows at h
 split at h
 ·cases h; simp
 ·obtain ⟨z,hz,rfl⟩:=Option.map_eq_some_iff.1 h
  have h1:=rows_cnt _ _ _ _ hz
  obtain ⟨p,ps,e,h2⟩:=pieces_cnt 10 x
  rw [e] at h1
  simp only [List.length_map,List.length_nil] at h1 ⊢
  cases p with
  | nil=>rw [List.filter_cons,if_neg (by simp)] at h1; simp only [List.length_nil] at h2; omega
  | cons y p=>rw [List.filter_cons,if_pos (by rfl)] at h1; simp only [List.length_cons] at h1 h2; omega
theorem outW_spec {ws:List Word} {o:Outc} (h:outW ws = some o):OKO o∧0 ≤ o.ID.Seq:=by
 unfold outW at h
 split at h
 ·rename_i hex
  cases h
  exact ⟨hex.choose_spec.1,hex.choose_spec.2.1⟩
 ·cases h
theorem goT_facts:∀ (rows:List Row) (i:Nat) (out:List Outc),out.length = i→OkT out→(∀ o ∈ out,0 ≤ o.ID.Seq) →
  ((goT rows i out).2.Err ≠ 0→(goT rows i out).1 = [])∧((goT rows i out).2.Err = 0→OkT (goT rows i out).1∧(∀ o ∈ (goT rows i out).1,0 ≤ o.ID.Seq)∧(goT rows i out).1.length ≤ i + rows.length)
 | [],i,out,hi,ho,hs=>by
  rw [goT]
  exact ⟨fun h=>absurd rfl h,fun _=>⟨ho,hs,by simp; omega⟩⟩
 | r :: rs,i,out,hi,ho,hs=>by
  rw [goT]
  split
  ·exact ⟨fun _=>rfl,fun h=>by simp at h⟩
  ·split
   ·exact ⟨fun _=>rfl,fun h=>by simp at h⟩
   ·rename_i o hw
    obtain ⟨h1,h2⟩:=outW_spec hw
    split
    ·exact ⟨fun _=>rfl,fun h=>by simp at h⟩
    ·rename_i hn
     have hx:(out++[o])[i]? = some o:=by rw [← hi,List.getElem?_append_right (Nat.le_refl _)]; simp
     have hok:OkT (out++[o]):=by
      have:=(okT_snoc hx).2 ⟨by rw [List.take_left' hi]; exact ho,h1,fun y h0 hy=>?_⟩
      ·rwa [List.take_of_length_le (by simp; omega)] at this
      ·rw [List.getElem?_append_left (by omega)] at hy
       have hq:¬ o.Tick < lastT out i:=fun q=>hn ⟨h0,q⟩
       unfold lastT at hq
       rw [hy] at hq
       simp only [Option.map_some,Option.getD_some] at hq
       omega
     obtain ⟨a,b⟩:=goT_facts rs (i + 1) (out++[o]) (by simp; omega) hok (fun z hz=>by
      rcases List.mem_append.1 hz with hz | hz
      ·exact hs z hz
      ·rw [List.mem_singleton] at hz; rw [hz]; exact h2)
     refine ⟨a,fun h=>?_⟩
     obtain ⟨b1,b2,b3⟩:=b h
     exact ⟨b1,b2,by rw [List.length_cons]; omega⟩
theorem parse_facts (x:List UInt8) (hx:x.length ≤ 600):∃ b f,trace_Parse x = some (b,f)∧(f.Err ≠ 0→b = [])∧(f.Err = 0→OkT b∧(∀ o ∈ b,0 ≤ o.ID.Seq)∧b.length ≤ 300):=by
 obtain ⟨r,h1,h2⟩:=parse_s x
 have hl:=rows_len h1
 refine ⟨(parseR r).1,(parseR r).2,h2,?_⟩
 unfold parseR
 split
 ·rename_i h
  exact ⟨fun _=>rfl,fun q=>absurd q h⟩
 ·obtain ⟨a,b⟩:=goT_facts r.1 0 [] rfl ⟨fun o ho=>(by cases ho),fun i x y hx=>(by simp at hx)⟩ (fun o ho=>(by cases ho))
  refine ⟨a,fun h=>?_⟩
  obtain ⟨b1,b2,b3⟩:=b h
  exact ⟨b1,b2,by omega⟩
theorem kw13:∀ k ∈ [1,2,3,4,5,6,7,8,9,10,11,12,13,14,15],(kws.getD k []).length ≤ 13:=by decide +kernel
theorem line64 {o:Outc} (h:OKO o) (hs:0 ≤ o.ID.Seq):(lineT o).length ≤ 64:=by
 obtain ⟨h1,h2,h3,h4,h5,h6,h7,h8⟩:=oko_ranges h
 have a1:=dec_len 12 o.Tick h2 (by omega)
 have a2:=dec_len 1 o.Node (by omega) (by omega)
 have a3:(kw o.Kind).length ≤ 13:=kw13 _ (mem15 h1)
 have a4:=dec_len 1 o.Other (by omega) (by omega)
 unfold lineT
 rw [wds_join]
 by_cases k1:o.Kind ≤ 10∧o.Kind ≠ 5
 ·have hid:=h8 k1
  unfold okID at hid
  have b1:=dec_len 1 o.ID.Node (by omega) (by omega)
  have b2:=dec_len 12 o.ID.Seq hs (by omega)
  have b3:=dec_len 4 o.ID.Off (by omega) (by omega)
  rw [if_pos k1]
  unfold keyT
  split <;> simp only [List.length_append,List.length_cons,List.length_nil] <;> omega
 ·rw [if_neg k1]
  split <;> simp only [List.length_append,List.length_cons,List.length_nil] <;> omega
theorem text64:∀ l:List Outc,(∀ o ∈ l,OKO o∧0 ≤ o.ID.Seq)→(textT l).length ≤ 64 * l.length
 | [],_=>by simp [textT]
 | o :: l,h=>by
  have ih:=text64 l fun x hx=>h x (List.mem_cons_of_mem _ hx)
  obtain ⟨h1,h2⟩:=h o (List.mem_cons_self ..)
  have:=line64 h1 h2
  unfold textT at ih ⊢
  rw [List.flatMap_cons,List.length_append,List.length_cons]
  omega
theorem text_back {l:List Outc} (ok:OkT l) (hl:l.length ≤ 300) (hs:∀ o ∈ l,0 ≤ o.ID.Seq):trace_Text l = some (textT l,0)∧trace_Parse (textT l) = some (l,⟨0,0⟩):=by
 have ht:=text64 l fun o ho=>⟨ok.one o ho,hs o ho⟩
 refine ⟨?_,Parse_back ok (by omega) hs (by omega)⟩
 obtain ⟨r,e,hr⟩:=text_s l (by omega) hs
 rw [e,hr.det (.inr ⟨⟨0,.inr (.inl ⟨by omega,ok,rfl⟩)⟩,.inr ⟨by omega,rfl⟩⟩)]
theorem traceRound_w (nums:List Int) (s:List UInt8):packhorselaw39_TraceRound (nums,s) = some true:=by
 refine W.eq ?_
 unfold packhorselaw39_TraceRound
 dsimp only
 refine W_eq known_w ?_
 refine W_call (made_w nums) ?_
 rintro l ⟨h1,h2,h3⟩
 have ok:OkT l:=okT_of_pairwise (fun o ho=>good_ok (h2 o ho)) h3
 have hs:∀ o ∈ l,0 ≤ o.ID.Seq:=fun o ho=>good_seq (h2 o ho)
 obtain ⟨t1,t2⟩:=text_back ok (by omega) hs
 refine W_eq t1 ?_
 dsimp only
 refine W_eq t2 ?_
 dsimp only
 refine W_brF ?_
 refine W_brF ?_
 refine W_eq (same_w l (by omega)) ?_
 refine W_brF ?_
 refine W_if (fun _=>W_ret rfl) fun hlen=>?_
 obtain ⟨b,f,p1,p2,p3⟩:=parse_facts s (by omega)
 refine W_eq p1 ?_
 dsimp only
 refine W_if (fun he=>?_) fun he=>?_
 ·rw [p2 he]
  exact W_brT (W_ret rfl)
 ·have he0:f.Err = 0:=Classical.byContradiction fun q=>he q
  obtain ⟨q1,q2,q3⟩:=p3 he0
  obtain ⟨u1,u2⟩:=text_back q1 q3 q2
  refine W_eq u1 ?_
  dsimp only
  refine W_eq u2 ?_
  dsimp only
  refine W_brT ?_
  refine W_brT ?_
  refine W_brT ?_
  refine W_eq (same_w b (by omega)) ?_
  exact W_ret rfl
end Go.Proofs.YtjcbpfhlgebgdaaDoor
