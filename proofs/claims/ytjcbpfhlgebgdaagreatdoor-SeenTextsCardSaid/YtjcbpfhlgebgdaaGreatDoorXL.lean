import Derived.Test.YtjcbpfhlgebgdaaGreatDoorX9
set_option linter.unusedSimpArgs false
set_option linter.unusedVariables false
namespace Go.X
open Go.Eng
def W {α:Type} (o:Option α) (Q:α->Prop):Prop:=∃ a,o = some a/\Q a
section
variable {α β σ ρ:Type}
theorem W.mono {o:Option α} {Q R:α->Prop} (h:W o Q) (hq:∀ a,Q a->R a):W o R:=let ⟨a,e,q⟩:=h; ⟨a,e,hq a q⟩
theorem yk {a:α} {Q:α->Prop} (h:Q a):W (some a) Q:=⟨a,rfl,h⟩
theorem W.eq {o:Option α} {a:α} (h:W o fun x=>x = a):o = some a:=by
 obtain ⟨b,e,rfl⟩:=h
 exact e
theorem zqy {o:Option α} {f:α->Option β} {Q:β->Prop} (h:W o fun a=>W (f a) Q):W (o.bind f) Q:=by
 obtain ⟨a,e,b,e',q⟩:=h
 exact ⟨b,by rw [e]; exact e',q⟩
theorem Y8 {o:Option α} {f:α->Option β} {R:α->Prop} {Q:β->Prop} (h:W o R) (k:∀ a,R a->W (f a) Q):W (o.bind f) Q:=zqy (h.mono k)
theorem yJ {o:Option α} {a:α} {f:α->Option β} {Q:β->Prop} (h:o = some a) (k:W (f a) Q):W (o.bind f) Q:=by rw [h]; exact k
theorem Yr {a:α} {f:α->Option β} {Q:β->Prop} (k:W (f a) Q):W ((some a).bind f) Q:=k
theorem ztI {b:Bool} {x y:Option α} {Q:α->Prop} (h1:b = true->W x Q) (h2:b = false->W y Q):W (br b x y) Q:=by
 cases b
 ·exact h2 rfl
 ·exact h1 rfl
theorem Qx {b:Bool} {x y:Option α} {Q:α->Prop} (h:W (br b y x) Q):W (br (!b) x y) Q:=by cases b <;> exact h
theorem Q0 {x y:Option α} {Q:α->Prop} (h:W x Q):W (br true x y) Q:=h
theorem zeW {x y:Option α} {Q:α->Prop} (h:W y Q):W (br false x y) Q:=h
theorem zqz {i:Int} {n:Nat} {x y:Option α} {Q:α->Prop} (h0:0 <= i) (h1:i < n) (h:W x Q):W (br (inB i n) x y) Q:=by
 have:inB i n = true:=by unfold inB; simp; omega
 rw [this]; exact h
theorem ztM {a b:Int} (h0:0 <= a) (h1:a <= 9223372036854775807) (hb:0 < b):zkO .i64 a b = some (a / b):=by
 have h2:=Int.ediv_nonneg h0 (Int.le_of_lt hb)
 have h3:=Int.ediv_le_self b h0
 unfold zkO
 rw [Int.tdiv_eq_ediv_of_nonneg h0,if_pos ⟨by omega,zfd _ ⟨by omega,by omega⟩⟩]
theorem zrO {a b:Int} (h0:0 <= a) (hb:0 < b):zl5 a b = some (a % b):=by
 unfold zl5; rw [if_pos (by omega),Int.tmod_eq_emod_of_nonneg h0]
theorem zr7 {a b:Int} {f:Int->Option β} {Q:β->Prop} (h0:0 <= a) (hb:0 < b) (k:∀ c,c = a % b->W (f c) Q):W ((zl5 a b).bind f) Q :=
 yJ (zrO h0 hb) (k _ rfl)
theorem zqA {l:List α} {i:Int} (h0:0 <= i) (h1:i < l.length):∃ x,idx l i = some x/\l[i.toNat]? = some x:=by
 have h:i.toNat < l.length:=by omega
 exact ⟨l[i.toNat],by unfold idx; rw [if_pos h0]; exact List.getElem?_eq_getElem h,List.getElem?_eq_getElem h⟩
theorem Zr {l:List α} {i:Int} {f:α->Option β} {Q:β->Prop} (h0:0 <= i) (h1:i < l.length) (k:∀ x,l[i.toNat]? = some x->W (f x) Q):W ((idx l i).bind f) Q:=by
 obtain ⟨x,e,e'⟩:=zqA h0 h1
 exact yJ e (k x e')
theorem znF {l m:List α} {n:Nat} {f:List α->Option β} {Q:β->Prop} (h:(l.length + m.length) * n <= 140737488355328) (k:W (f (l++m)) Q):W ((app n l m).bind f) Q:=by
 unfold app; rw [if_pos h]; exact k
class OpW (o:Option α) (pre:outParam Prop) (post:outParam (α->Prop)):Prop where
 w:pre->W o post
instance {a b:Int}:OpW (zO .i64 a b) (-9223372036854775808 <= a + b/\a + b <= 9223372036854775807) (fun c=>c = a + b):=⟨fun h=>⟨a + b,by unfold zO; rw [if_pos (zfd _ h)],rfl⟩⟩
instance {a b:Int}:OpW (Yb .i64 a b) (-9223372036854775808 <= a - b/\a - b <= 9223372036854775807) (fun c=>c = a - b):=⟨fun h=>⟨a - b,by unfold Yb; rw [if_pos (zfd _ h)],rfl⟩⟩
theorem ZK {o:Option α} {f:α->Option β} {Q:β->Prop} {pre:Prop} {post:α->Prop} [i:OpW o pre post] (k:∀ a,post a->W (f a) Q) (h:pre:=by omega):W (o.bind f) Q:=Y8 (i.w h) k
class BP (b:Bool) (p:outParam Prop):Prop where
 t:b = true->p
 f:b = false->¬p
instance {p:Prop} [Decidable p]:BP (decide p) p:=⟨of_decide_eq_true,of_decide_eq_false⟩
instance {a b:Int}:BP (a == b) (a = b):=⟨fun h=>by simpa using h,fun h=>by simpa using h⟩
instance {a b:Int}:BP (a != b) (¬a = b):=⟨fun h=>by simpa using h,fun h=>by simpa using h⟩
instance {b:Bool} {p:Prop} [i:BP b p]:BP (!b) (¬p):=⟨fun h=>i.f (by simpa using h),fun h hp=>hp (i.t (by simpa using h))⟩
theorem yh {b:Bool} {x y:Option α} {Q:α->Prop} {p:Prop} [i:BP b p] (h1:p->W x Q) (h2:¬p->W y Q):W (br b x y) Q:=ztI (fun h=>h1 (i.t h)) (fun h=>h2 (i.f h))
theorem zs3 {F:σ->Option (zar σ ρ)} {Q:ρ->Prop} (I:σ->Prop) (m:σ->Nat)
  (h:∀ s,I s->W (F s) fun | .next s'=>I s'/\m s' < m s | .done r=>Q r) {s:σ} (hs:I s):W (qO F s) Q:=by
 have key:∀ n s,m s <= n->I s->W (qO F s) Q:=by
  intro n
  induction n with
  | zero =>
   intro s hm hi
   obtain ⟨st,e,q⟩:=h s hi
   rw [qE,e]
   cases st with
   | next s'=>exact absurd q.2 (by omega)
   | done r=>exact ⟨r,rfl,q⟩
  | succ n ih =>
   intro s hm hi
   obtain ⟨st,e,q⟩:=h s hi
   rw [qE,e]
   cases st with
   | next s'=>exact ih s' (by have:=q.2; omega) q.1
   | done r=>exact ⟨r,rfl,q⟩
 exact key _ s (Nat.le_refl _) hs
theorem ZG {F:σ->Option (zar σ ρ)} {f:ρ->Option β} {Q:β->Prop} (I:σ->Prop) (m:σ->Nat) {s:σ}
  (h:∀ s,I s->W (F s) fun | .next s'=>I s'/\m s' < m s | .done r=>W (f r) Q) (hs:I s):W ((qO F s).bind f) Q :=
 zqy (zs3 I m h hs)
theorem qk {s':σ} {Q:zar σ ρ->Prop} (h:Q (.next s')):W (some (.next s')) Q:=⟨_,rfl,h⟩
theorem yy {r:ρ} {Q:zar σ ρ->Prop} (h:Q (.done r)):W (some (zar.done (σ:=σ) r)) Q:=⟨_,rfl,h⟩
end
end Go.X
