/- For every input DataResolves returns true, and each argument reads behind the call as it read before; no conditions. -/
import Derived.Test.YtlhoigpidpokfaaGreatRows
import Derived.Test.YtlhoigpidpokfaaGreatMT
import Derived.Test.YtlhoigpidpokfaaGreatMR9
import Derived.SizedLaws
import Derived.ChangeOld
import Derived.OpenShut
set_option linter.unusedVariables false
set_option linter.unusedSimpArgs false
namespace Go.Proofs.YtlhoigpidpokfaaGreat
open Go Go.Abs Go.Proofs Go.ChangeShapes Go.WideShapes Go.ChangeAt Go.RowKit Go.Deep
set_option maxRecDepth 100000
theorem own:ownKnob Tryz.prog.godebug=none:=by kernel_rfl
theorem laidOut:laidOutB Tryz.prog=true:=by kernel_rfl
section
variable {H:Type} {enc:TypeId × Value→H} {w:World} {spare:Nat→Bool} {held:Bool}
theorem read_argP {r:Reach} {b0:Nat} {v:Value} {d:DataW H} {ps:List MemPlace} (hv:Value.okWide Tryz.prog w r b0 27 v) (h:DataW.Trod enc Tryz.prog w 0 spare held 27 v d ps) (hw:∀ n∈d.weights Tryz.prog 27,n≤reachBytes):∃ l:List PredD,l.length < BL∧Rep (KW.all w) w (.slice (l.map PredD.cells) none) v:=by
 obtain ⟨a,len,cap,rfl⟩:=okWide_slice Tryz.underlying27 hv
 obtain ⟨fuel,h⟩:=h
 obtain ⟨l,h1,_,h2,_⟩:=read_row PredD.cells (fun _=>True) (⟨ByteArray.empty,.mk ByteArray.empty []⟩) 3 Tryz.underlying27 cellsPred (fun _=>rfl) (by rw [bytesPred];omega) (by omega) fuel (fun m _ cs x h hw=>read_pred m cs x h hw) _ _ h hw
 exact ⟨l,h1,h2⟩
theorem read_argD {r:Reach} {b0:Nat} {v:Value} {d:DataW H} {ps:List MemPlace} (hv:Value.okWide Tryz.prog w r b0 26 v) (h:DataW.Trod enc Tryz.prog w 0 spare held 26 v d ps) (hw:∀ n∈d.weights Tryz.prog 26,n≤reachBytes):∃ t:DeclsD,RawD t∧Rep (KW.all w) w t.enc v:=by
 obtain ⟨cs,rfl,_⟩:=okWide_struct Tryz.underlying26 hv
 obtain ⟨fuel,h⟩:=h
 obtain ⟨t,hr,ht,_⟩:=read_decls fuel _ _ h hw
 exact ⟨t,hr,cs,rfl,ht⟩
end
theorem resolves_lifted (os:Os) (started:os.Started) (H:Type) (enc:TypeId × Value→H) :
  ReturnsInHanded {} Tryz.checked os 3 .any (Rows.dataResolvesSpec.pre6 enc Tryz.prog Tryz.f3 Rows.dataResolvesRow.domain false) (Rows.dataResolvesSpec.post enc Tryz.prog Tryz.f3 false true false false):=by
 refine returnsInHanded_of_change_sized (C:=Tryz.checked) own started (by kernel_rfl) Tryz.func3
  (ChangeSpec.witness6 (enc:=enc) (C:=Tryz.checked) false ⟨#[],#[.agg #[.slice none 0 0,.slice none 0 0,.slice none 0 0],.slice none 0 0],[]⟩ 8 (by kernel_rfl) (by kernel_rfl) (by kernel_rfl) (by kernel_rfl)) ?_
 intro W base args ds gs before hval0 hW hcnd hsz0 _
 have hval:∀ (j:Nat) t v,Tryz.f3.params[j]?=some t→args[j]?=some v→Value.okWide Tryz.prog W .any base t v:=hval0
 have hW':=hW
 obtain ⟨p,q,hA0,hV,rfl,hfz,hnd⟩:=hW
 have hA:DataW.TrodAll enc Tryz.prog W 0 (fun _=>true) true Tryz.f3.params.toList args.toList ds p:=hA0
 rw [Tryz.params3] at hA hval
 obtain ⟨v0,vs0,d0,ds0,p0,q0,hargs,rfl,rfl,h0,r0⟩:=trodAll_cons hA
 obtain ⟨v1,vs1,d1,ds1,p1,q1,rfl,rfl,rfl,h1,r1⟩:=trodAll_cons r0
 obtain ⟨rfl,rfl,rfl⟩:=trodAll_nil r1
 obtain rfl:args=#[v0,v1]:=Array.ext' hargs
 obtain ⟨rfl,rfl⟩:=trodVars_none hV
 have hsz:(DataW.weightsEach Tryz.prog (Tryz.f3.params.toList++Rows.dataResolvesSpec.plain.varTypes Tryz.prog) ([d0,d1]++[])).all (·≤reachBytes)=true:=hsz0
 rw [Tryz.params3] at hsz
 have wt:∀ (j:Nat) (t:TypeId) (d:DataW H),[26,27][j]?=some t→[d0,d1][j]?=some d→∀ n∈d.weights Tryz.prog t,n≤reachBytes:=fun j t d ht hd n hn =>
  of_decide_eq_true (List.all_eq_true.1 hsz n (DataW.weights_mem_each (j:=j) (t:=t) (d:=d) (by
   match j,ht with
   | 0,ht=>exact ht
   | 1,ht=>exact ht
   | _+2,ht=>cases ht) (by
   match j,hd with
   | 0,hd=>exact hd
   | 1,hd=>exact hd
   | _+2,hd=>cases hd) n hn))
 obtain ⟨a,hra,ha⟩:=read_argD (hval 0 26 v0 rfl rfl) h0 (wt 0 _ _ rfl rfl)
 obtain ⟨l,hll,hb⟩:=read_argP (hval 1 27 v1 rfl rfl) h1 (wt 1 _ _ rfl rfl)
 have lt0:∀ x∈p0,x.block < W.heap.size:=by obtain ⟨m,hm⟩:=h0;exact DataW.trod_lt m _ _ _ hm
 have lt1:∀ x∈p1,x.block < W.heap.size:=by obtain ⟨m,hm⟩:=h1;exact DataW.trod_lt m _ _ _ hm
 clear hA0 hval0
 refine (calls_top (resolves_ok a hra l hll AHeap.none) W #[v0,v1] ⟨_,_,rfl,ha,_,_,rfl,hb,rfl⟩).mono fun e W' ⟨he,bel⟩=>?_
 subst he
 exact ⟨_,rfl,_,_,_,[],_,[],hW',trodAll_mk1 (shut_bool Tryz.underlying4 _),(trodAll_cons_mk (Below.trod laidOut (by kernel_rfl) (of_decide_eq_true (by kernel_rfl)) h0 bel lt0) (trodAll_cons_mk (Below.trod laidOut (by kernel_rfl) (of_decide_eq_true (by kernel_rfl)) h1 bel lt1) trodAll_mk0)),rfl,bel.frame _,fun h=>by cases h⟩
theorem dataResolves_holds:Rows.DataResolvesSaid :=
 OpenClaim.holds_of_wide 3 Tryz.f3 rfl rfl rfl rfl rfl rfl rfl ⟨rfl,rfl,rfl,rfl,rfl⟩ rfl rfl rfl rfl rfl (by kernel_rfl) Tryz.func3 (by kernel_rfl)
  (of_decide_eq_true (by kernel_rfl)) (by unfold Func.isWrapper;first | (rw [if_pos (by decide +kernel)];kernel_rfl) | (rw [if_neg (by decide +kernel)];exact ⟨rfl,rfl⟩))
  (fun os started H enc _=>resolves_lifted os started H enc)
end Go.Proofs.YtlhoigpidpokfaaGreat
