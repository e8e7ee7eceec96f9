import Derived.Test.YtjcbpfhlgebgdaaGreatDoorXL
set_option linter.unusedSimpArgs false
set_option linter.unusedVariables false
namespace Go.X
open Go.Eng
noncomputable def zsi {α β:Type} (F:α->β->Option (Bool × β)):List α->β->Option (Int × β) :=
 fun s_1 x_2 =>
 (qO (σ:=Int × β) (ρ:=(Int × β) ⊕ (β)) (fun (x_3,x_4) =>
  br (decide (x_3 < (s_1.length:Int)))
   ((idx s_1 x_3).bind fun x_5 =>
   (F x_5 x_4).bind fun (x_6,x_7) =>
   br x_6
    (some (.done (.inl (x_3,x_7))))
    ((zO .i64 x_3 (1:Int)).bind fun x_8 =>
    some (.next (x_8,x_7))))
   (some (.done (.inr x_4)))) ((0:Int),x_2)).bind fun x_12 =>
 Sum.elim
  (fun (x_9,x_10) =>
  some (x_9,x_10))
  (fun x_11 =>
  some ((-1:Int),x_11)) x_12
noncomputable def zth {α β:Type} (F:α->β->Option (Bool × β)) (z:α):List α->β->Option (List α × β) :=
 fun s_1 x_2 =>
 (zsi F s_1 x_2).bind fun (x_3,x_4) =>
 br (x_3 == (-1:Int))
  (some (s_1,x_4))
  ((zO .i64 x_3 (1:Int)).bind fun x_5 =>
  (qO (σ:=(List α) × Int × Int × β) (ρ:=(List α) × Int × β) (fun (s_6,i_7,j_8,x_9) =>
   br (decide (j_8 < (s_6.length:Int)))
    ((idx s_6 j_8).bind fun x_10 =>
    (F x_10 x_9).bind fun (x_11,x_12) =>
    br (!x_11)
     (br (inB i_7 s_6.length)
      ((idx s_6 i_7).bind fun x_13 =>
      (zO .i64 i_7 (1:Int)).bind fun x_14 =>
      (zO .i64 j_8 (1:Int)).bind fun x_15 =>
      some (.next (zei s_6 i_7 x_10,x_14,x_15,x_12)))
      (none))
     ((zO .i64 j_8 (1:Int)).bind fun x_16 =>
     some (.next (s_6,i_7,x_16,x_12))))
    (some (.done (s_6,i_7,x_9)))) (s_1,x_3,x_5,x_4)).bind fun (s_17,i_18,x_19) =>
  (zog s_17 i_18 z).bind fun x_20 =>
  (slc x_20 (0:Int) i_18).bind fun x_21 =>
  some (x_21,x_19))
section
variable {α β:Type} {F:α->β->Option (Bool × β)} {b:β} {p:α->Bool}
theorem zsj (hF:∀ d,F d b = some (p d,b)) (l:List α) (hl:l.length <= 1000):W (zsi F l b) fun r =>
  r.2 = b/\((r.1 = -1/\∀ x ∈ l,p x = false) ∨ (∃ k:Nat,r.1 = k/\k < l.length/\(∀ x ∈ l.take k,p x = false)/\∃ x,l[k]? = some x/\p x = true)):=by
 unfold zsi
 refine ZG (fun s:Int × β=>(0 <= s.1/\s.1 <= l.length)/\s.2 = b/\∀ x ∈ l.take s.1.toNat,p x = false) (fun s=>l.length - s.1.toNat) ?_ ⟨⟨by simp,by simp⟩,rfl,by simp⟩
 rintro ⟨i,c⟩ ⟨⟨h0,h1⟩,h2,h3⟩
 dsimp only at h0 h1 h2 h3 ⊢
 subst h2
 refine yh (fun hi=>?_) fun hi=>?_
 ·refine Zr h0 hi fun x hx=>?_
  refine yJ (hF x) ?_
  dsimp only
  cases hp:p x with
  | true=>exact Q0 (yy (yk ⟨rfl,.inr ⟨i.toNat,by dsimp only; omega,by omega,h3,x,hx,hp⟩⟩))
  | false =>
   refine zeW (ZK fun j hj=>qk ⟨⟨⟨by dsimp only; omega,by dsimp only; omega⟩,rfl,fun y hy=>?_⟩,by dsimp only; omega⟩)
   dsimp only at hy
   rw [show j.toNat = i.toNat + 1 from by omega,List.take_add_one,hx] at hy
   rcases List.mem_append.1 hy with hy | hy
   ·exact h3 y hy
   ·simp at hy; subst hy; exact hp
 ·refine yy (yk ⟨rfl,.inl ⟨rfl,?_⟩⟩)
  rwa [List.take_of_length_le (by omega)] at h3
theorem zsk (hF:∀ d,F d b = some (p d,b)) (z:α) (l:List α) (hl:l.length <= 1000):W (zth F z l b) fun r=>r = (l.filter (fun d=>!p d),b):=by
 unfold zth
 refine Y8 (zsj hF l hl) fun r hr=>?_
 obtain ⟨k0,b'⟩:=r
 obtain ⟨hb,hr⟩:=hr
 dsimp only at hb hr ⊢
 subst hb
 rcases hr with ⟨rfl,hr⟩ | ⟨k,rfl,hk,hr,x,hx,hp⟩
 ·refine yh (fun _=>yk ?_) fun h=>absurd rfl h
  rw [List.filter_eq_self.2 fun y hy=>by rw [hr y hy]; rfl]
 ·refine yh (fun h=>absurd h (by omega)) fun _=>?_
  refine ZK fun c hc=>?_
  refine ZG (fun s:List α × Int × Int × β=>(0 <= s.2.1/\s.2.1 < s.2.2.1/\s.2.2.1 <= l.length)/\s.1.length = l.length/\s.2.2.2 = b'/\s.1.take s.2.1.toNat = (l.take s.2.2.1.toNat).filter (fun d=>!p d)/\s.1.drop s.2.2.1.toNat = l.drop s.2.2.1.toNat) (fun s=>l.length - s.2.2.1.toNat) ?_ ?_
  ·rintro ⟨s,i,j,c'⟩ ⟨⟨h0,h1,h2⟩,h3,h4,h5,h6⟩
   dsimp only at h0 h1 h2 h3 h4 h5 h6 ⊢
   subst h4
   refine yh (fun hj=>?_) fun hj=>?_
   ·refine Zr (by omega) (by omega) fun y hy=>?_
    have hyl:l[j.toNat]? = some y:=by
     have e1:(s.drop j.toNat)[0]? = some y:=by rw [List.getElem?_drop]; simpa using hy
     rw [h6,List.getElem?_drop] at e1
     simpa using e1
    refine yJ (hF y) ?_
    dsimp only
    have htk:(l.take (j.toNat + 1)).filter (fun d=>!p d) = (l.take j.toNat).filter (fun d=>!p d)++(if p y then [] else [y]):=by
     rw [List.take_add_one,hyl,List.filter_append]
     cases hpy:p y <;> simp [hpy]
    have hdr:∀ t:List α,t.drop j.toNat = l.drop j.toNat->t.drop (j.toNat + 1) = l.drop (j.toNat + 1):=fun t ht=>by
     have e1:∀ u:List α,u.drop (j.toNat + 1) = (u.drop j.toNat).drop 1:=fun u=>by rw [List.drop_drop]
     rw [e1,e1,ht]
    cases hpy:p y with
    | false =>
     rw [hpy] at htk
     refine Q0 (zqz h0 (by omega) ?_)
     refine Zr h0 (by omega) fun u hu=>?_
     refine ZK fun i' hi'=>ZK fun j' hj'=>?_
     refine qk ⟨⟨⟨by dsimp only; omega,by dsimp only; omega,by dsimp only; omega⟩,by simp [zei,h3],rfl,?_,?_⟩,by dsimp only; omega⟩
     ·dsimp only
      rw [show i'.toNat = i.toNat + 1 from by omega,show j'.toNat = j.toNat + 1 from by omega,htk,<- h5]
      unfold zei
      rw [List.take_add_one,List.take_set_of_le (Nat.le_refl _),List.getElem?_set_self (by omega)]
      rfl
     ·dsimp only
      rw [show j'.toNat = j.toNat + 1 from by omega]
      unfold zei
      rw [List.drop_set_of_lt (by omega)]
      exact hdr s h6
    | true =>
     rw [hpy] at htk
     refine zeW (ZK fun j' hj'=>?_)
     refine qk ⟨⟨⟨h0,by dsimp only; omega,by dsimp only; omega⟩,h3,rfl,?_,?_⟩,by dsimp only; omega⟩
     ·dsimp only
      rw [show j'.toNat = j.toNat + 1 from by omega,htk,h5]; simp
     ·dsimp only
      rw [show j'.toNat = j.toNat + 1 from by omega]
      exact hdr s h6
   ·refine yy ?_
    dsimp only
    have hcl:zog s i z = some (s.take i.toNat++List.replicate (s.length - i.toNat) z):=by unfold zog; rw [if_pos (by omega)]
    refine yJ hcl ?_
    have hsl:slc (s.take i.toNat++List.replicate (s.length - i.toNat) z) (0:Int) i = some (s.take i.toNat):=by
     unfold slc
     rw [if_pos ⟨by omega,h0,by simp; omega⟩]
     have:(s.take i.toNat).length = i.toNat:=by simp; omega
     rw [List.take_append_of_le_length (by omega),List.take_of_length_le (by omega)]
     rfl
    refine yJ hsl (yk ?_)
    rw [h5,List.take_of_length_le (by omega)]
  ·refine ⟨⟨by dsimp only; omega,by dsimp only; omega,by dsimp only; omega⟩,rfl,rfl,?_,rfl⟩
   dsimp only
   rw [show c.toNat = k + 1 from by omega,show (k:Int).toNat = k from by omega,List.take_add_one,hx,List.filter_append]
   rw [List.filter_eq_self.2 fun y hy=>by rw [hr y hy]; rfl]
   simp [hp]
end
end Go.X
