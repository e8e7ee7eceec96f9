import Derived.Test.YtgpccllhdcggdaaGreatDoorX9
import Derived.Test.YtgpccllhdcggdaaGreatDoorR30
import Derived.Stop.Joined
namespace Go.Proofs.YtgpccllhdcggdaaGreatDoor
open Go Go.Eng Go.RowKit
theorem zob (W:World) {laid:List (String × DataW Unit)} (hL:laidMetH Tryz.prog laid W) (hp:laid = Rows.scriptChecksRow.laid):HL W (fun b _=>b < W.heap.size):=by
 subst hp
 have hF := laidMetH.funcs hL (n := "packhorse/script.readers") (d := (.map [(.string [99, 111, 110, 116, 97, 99, 116], .iface "func" (.lit (.string [40, 42, 112, 97, 99, 107, 104, 111, 114, 115, 101, 47, 115, 99, 114, 105, 112, 116, 46, 114, 101, 97, 100, 101, 114, 41, 46, 99, 111, 110, 116, 97, 99, 116]))), (.string [110, 111, 100, 101], .iface "func" (.lit (.string [40, 42, 112, 97, 99, 107, 104, 111, 114, 115, 101, 47, 115, 99, 114, 105, 112, 116, 46, 114, 101, 97, 100, 101, 114, 41, 46, 99, 111, 110, 102, 105, 103])))])) (List.mem_of_getElem? (i := 6) rfl)
 obtain ⟨bm,hc,es,k,hm,o,n1,n2,he⟩:=Go.Run.table_at (g:=1) (t:=154) (k:=9) (e:=153) (ps:=#[147,155]) (rs:=#[]) (va:=false) (k1:=[99,111,110,116,97,99,116]) (k2:=[110,111,100,101]) (b1:=40) (r1:=[42,112,97,99,107,104,111,114,115,101,47,115,99,114,105,112,116,46,114,101,97,100,101,114,41,46,99,111,110,116,97,99,116]) (b2:=40) (r2:=[42,112,97,99,107,104,111,114,115,101,47,115,99,114,105,112,116,46,114,101,97,100,101,114,41,46,99,111,110,102,105,103]) (f1:=198) (f2:=197) hF
  (by kernel_rfl) (by kernel_rfl) (by kernel_rfl) (by kernel_rfl) (by kernel_rfl) rfl (by kernel_rfl) (by kernel_rfl)
 have hT:TBL W 1 bm:=⟨hc,es,k,hm,o,n1,n2,he.trans (by cases o <;> rfl)⟩
 replace hL:=(laidMetH_iff.1 hL).1
 obtain ⟨ty0, h0⟩ := Go.Run.laid_cells (n := "packhorse/script.uses") (d := Rows.laid_packhorse_script_uses) (g := 0) (t := 134) (vs := G0) hL (List.mem_filter.2 ⟨List.mem_of_getElem? (i := 5) rfl, by kernel_rfl⟩) (by kernel_rfl) (by kernel_rfl) (by kernel_rfl) (by kernel_rfl) (of_decide_eq_true (by kernel_rfl))
 have hsz0:=(Array.getElem?_eq_some_iff.1 h0).1
 obtain ⟨ty1, h1⟩ := Go.Run.laid_cells (n := "internal/strconv.uint64pow10") (d := Rows.laid_internal_strconv_uint64pow10) (g := 3) (t := 238) (vs := G1) hL (List.mem_filter.2 ⟨List.mem_of_getElem? (i := 2) rfl, by kernel_rfl⟩) (by kernel_rfl) (by kernel_rfl) (by kernel_rfl) (by kernel_rfl) (of_decide_eq_true (by kernel_rfl))
 have hsz1:=(Array.getElem?_eq_some_iff.1 h1).1
 refine ⟨fun _ _ h=>h,fun g vs hg=>?_,fun g hg=>?_⟩
 rotate_left
 ·unfold TN at hg; cases hg
  exact ⟨bm,hT,hT.lt.1,hT.lt.2⟩
 unfold GL at hg
 split at hg
 ·rename_i hg0; subst hg0; cases hg
  exact ⟨⟨ty0,h0⟩,fun _ _=>hsz0⟩
 ·
  split at hg
  ·rename_i hg0; subst hg0; cases hg
   exact ⟨⟨ty1,h1⟩,fun _ _=>hsz1⟩
  ·cases hg
end Go.Proofs.YtgpccllhdcggdaaGreatDoor
