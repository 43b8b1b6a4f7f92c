/- The program: whether a type has values to count. -/
import Derived.Test.YtlhoigpidpokfaaGreatMG2
import Derived.Test.YtlhoigpidpokfaaGreatME5
set_option linter.unusedVariables false
set_option linter.unusedSimpArgs false
namespace Go.Proofs.YtlhoigpidpokfaaGreat
open Go Go.Abs Go.Proofs
set_option maxRecDepth 20000
attribute [local simp] aOps wantedA aStep aop aLoad aStore aBin aUn aFieldAddr aField aIndexAddr aIndex aLen aBuild aFill aAlloc aAppend aAppendOwn aMin aMax aBuildSlice litRows newRows isMut isOwn isNilS nilsW bytesR tokW tokAV tokL ret readC splice aeval isLit isLate isCut aCut AV.celled AV.one AV.ofValue Value.oneCell' Value.cells intOp strOp get_nid upd_nid awp aEnd aResults aResult Det unord isCall isNext
attribute [local simp] low_take low_strs low_comp low_tcomp wkEs_refl' WkBs WkEnv WkB WkL WkE WkO ABlock.low lowO lowL lowR AV.low cellsL_eq Ty.low low_map Ty.cells_length Ty.cells_one
attribute [local simp] ConD.cells Dat.cells PredD.cells SigD.cells ClsD.cells InstD.cells DeclsD.cells DeclsD.enc Dat.enc low_datL low_conL low_predL low_sigL low_clsL low_instL
theorem nodesT_c:∀ (t:Ty),t.cnt < 1000000000000→∀ H,ACalls Tryz.prog 37 [t.enc] H (.slice (t.nodes.map Ty.cells) (some (nid H.next 1))) (HL H [.cells t.cells,.tok t.nodes.length 2 none]):=by
 intro t hsz H
 have ih:=nodes_c
 obtain ⟨n,l⟩:=t
 have hcnt:(Ty.mk n l).cnt=(nodesL l).length+1:=by simp [Ty.cnt,Ty.nodes]
 have hll:=nodesL_len l
 refine acalls_walk (fun _=>.imm) [0,1,2,3,5,9,10,11,12] Tryz.mixed Tryz.func37 rfl rfl rfl (by decide) (fun hcl hlow=>?_)
 simp only [enc_mk]
 repeat with_reducible refine awp_assoc ?_
 refine awp_sr fun K hK=>?_
 simp
 refine hK _ _ ?_
 clear hK K
 repeat with_reducible refine awp_assoc ?_
 refine awp_sr fun K hK=>?_
 simp
 refine hK _ _ ?_
 clear hK K
 repeat with_reducible refine awp_assoc ?_
 refine awp_sr fun K hK=>?_
 simp
 refine hK _ _ ?_
 clear hK K
 refine awp_seq_k fun K hK=>?_
 refine awp_block ?_
 refine awp_up l.length (fun k=>Env.ofL [(0,.agg [strV n,.slice (l.map Ty.cells) none]),(1,.ref (nid H.next 0) 0),(2,.v (.slice none 0 0)),(3,.slice ([strV n,.slice (l.map Ty.cells) none]::(nodesL (l.take k)).map Ty.cells) (some (nid H.next 1))),(9,.slice (l.map Ty.cells) none),(10,intV (l.length:Int)),(11,intV k)]) (fun k=>HL (H) [.cells [strV n,.slice (l.map Ty.cells) none],.tok ((nodesL (l.take k)).length+1) 2 none]) (fun k=>True) (weak_HL (hcl) (by simp) ?_ ?_) ?_ (fun k hk hi=>?_) (fun hi=>?_)
 ·simp [nodesL]
 ·simp [nodesL]
 ·trivial
 ·obtain ⟨x,hx⟩:∃ x,l[k]?=some x:=⟨_,List.getElem?_eq_getElem hk⟩
  have hxc:=cnt_mem hx
  have hc:=ih x (by omega)
  have e1:(nodesL (l.take (k+1))).map Ty.cells=(nodesL (l.take k)).map Ty.cells++x.nodes.map Ty.cells:=by rw [nodesL_take hx,List.map_append]
  have e2:(nodesL (l.take (k+1))).length=(nodesL (l.take k)).length+x.nodes.length:=by rw [nodesL_take hx,List.length_append]
  have hbd:(nodesL (l.take k)).length+x.nodes.length≤(nodesL l).length:=by
   have h2:nodesL l=nodesL (l.take (k+1))++nodesL (l.drop (k+1)):=by rw [←nodesL_append,List.take_append_drop]
   have h3:=congrArg List.length h2
   rw [List.length_append] at h3;omega
  have hne:x.nodes≠[]:=by obtain ⟨xn,xl⟩:=x;simp [Ty.nodes]
  rw [e1,e2]
  generalize hP:(nodesL (l.take k))=P at *
  generalize hX:x.nodes=X at *
  obtain ⟨xn,xl⟩:=x
  simp only [enc_mk] at hc
  repeat with_reducible refine awp_assoc ?_
  refine awp_sr fun K hK=>?_
  simp [hk]
  refine hK _ _ ?_
  clear hK K
  repeat with_reducible refine awp_assoc ?_
  refine awp_seq_k fun K hK=>?_
  refine awp_condT rfl (by simp) ?_
  refine awp_skip ?_
  refine hK _ _ ?_
  clear hK K
  refine awp_seq_k fun K hK=>?_
  refine awp_block ?_
  repeat with_reducible refine awp_assoc ?_
  refine awp_sr fun K hK=>?_
  refine aOps_split 3 fun K hK=>?_
  simp [hx,Ty.cells]
  refine hK _ _ ?_
  clear hK K
  simp
  refine hK _ _ ?_
  clear hK K
  refine awp_region ?_
  refine aOps_split 2 fun K hK=>?_
  simp
  refine hK _ _ ?_
  clear hK K
  refine aOps_call (hc _) (by first | rfl | simp) rfl rfl (by first | (simp;done) | rfl) ?_
  refine aOps_split 1 fun K2 hK2=>?_
  simp [hne]
  refine ⟨fun a _=>by obtain ⟨_,_⟩:=a;simp [Ty.cells],by omega,hK2 _ _ ?_⟩
  clear hK2 K2
  simp
  refine hK _ _ ?_
  clear hK K
  refine awp_region ?_
  simp [wrap_succ (show k < 4611686018427387904 by omega)]
  rw [show P.length+X.length+1=P.length+1+X.length by omega]
  exact weak_HL hcl rfl (by simp) (by simp [low_map])
 ·repeat with_reducible refine awp_assoc ?_
  refine awp_sr fun K hK=>?_
  simp
  refine hK _ _ ?_
  clear hK K
  repeat with_reducible refine awp_assoc ?_
  refine awp_seq_k fun K hK=>?_
  refine awp_condF rfl (by simp) ?_
  refine awp_exit ?_
  simp
  clear hK K
  refine hK _ _ ?_
  clear hK K
  repeat with_reducible refine awp_assoc ?_
  refine awp_sr fun K hK=>?_
  simp
  refine hK _ _ ?_
  clear hK K
  simp [Ty.nodes,Ty.cells,cellsL_eq,reset_all hcl]
  exact ⟨reset_HL hcl (by simp [low_map]),le_nid⟩
def conNodes (x:Dat):List Ty:=x.cons.flatMap fun c=>nodesL c.args
def valF (d:DeclsD):Nat→List Ty→List ByteArray→Option Bool
 | 0,_,_=>none
 | _+1,[],_=>some false
 | f+1,x::w,seen=>if x.name=arrowN then some true
  else if (!(namedD d x.name).2 || memS x.name seen)=true then valF d f w seen
  else if 1000000000 < (w++conNodes (namedD d x.name).1).length then none
  else valF d f (w++conNodes (namedD d x.name).1) (seen++[x.name])
def valV (b:Bool) (t:Ty):Int:=if b=true then 6 else if t.nodes.any dVarB=true then 6 else 0
def kVt (C0 C1:List AV) (seen:List ByteArray) (J:List ABlock) (n:Nat) (T:List ABlock):List ABlock:=.cells C0::.cells C1::.amap (metEs seen) seen.length::(J++.tok n 2 none::T)
section
variable (C0 C1:List AV) (seen:List ByteArray) (J:List ABlock) (n:Nat) (T:List ABlock)
theorem kt_len:(kVt C0 C1 seen J n T).length=J.length+4+T.length:=by simp [kVt];omega
theorem kt_app (b:ABlock):kVt C0 C1 seen J n T++[b]=kVt C0 C1 seen J n (T++[b]):=by simp [kVt]
theorem kt_0 (h:0 < (kVt C0 C1 seen J n T).length):(kVt C0 C1 seen J n T)[0]=.cells C0:=rfl
theorem kt_1 (h:1 < (kVt C0 C1 seen J n T).length):(kVt C0 C1 seen J n T)[1]=.cells C1:=rfl
theorem kt_2 (h:2 < (kVt C0 C1 seen J n T).length):(kVt C0 C1 seen J n T)[2]=.amap (metEs seen) seen.length:=rfl
theorem kt_tok (h:J.length+3 < (kVt C0 C1 seen J n T).length):(kVt C0 C1 seen J n T)[J.length+3]=.tok n 2 none:=by
 have:(kVt C0 C1 seen J n T)[J.length+3]?=some (.tok n 2 none):=by simp [kVt]
 rw [List.getElem?_eq_getElem h] at this
 exact Option.some.inj this
theorem kt_T? (i:Nat):(kVt C0 C1 seen J n T)[J.length+4+i]?=T[i]?:=by
 unfold kVt
 rw [show J.length+4+i=(J.length+1+i)+1+1+1 by omega]
 simp only [List.getElem?_cons_succ]
 rw [List.getElem?_append_right (by omega)]
 rw [show J.length+1+i - J.length=i+1 by omega]
 rfl
theorem kt_T (i:Nat) (c:ABlock) (hc:T[i]?=some c) (h:J.length+4+i < (kVt C0 C1 seen J n T).length):(kVt C0 C1 seen J n T)[J.length+4+i]=c:=by
 have:=kt_T? C0 C1 seen J n T i
 rw [List.getElem?_eq_getElem h,hc] at this
 exact Option.some.inj this
theorem kt_set2 (seen':List ByteArray):(kVt C0 C1 seen J n T).set 2 (.amap (metEs seen') seen'.length)=kVt C0 C1 seen' J n T:=rfl
theorem kt_set2' (x:ByteArray):(kVt C0 C1 seen J n T).set 2 (.amap (metEs (seen++[x])) (seen.length+1))=kVt C0 C1 (seen++[x]) J n T:=by
 have h:=kt_set2 C0 C1 seen J n T (seen++[x])
 rw [List.length_append] at h
 exact h
theorem kt_settok (n':Nat):(kVt C0 C1 seen J n T).set (J.length+3) (.tok n' 2 none)=kVt C0 C1 seen J n' T:=by
 simp only [kVt,List.set_cons_succ]
 rw [List.set_append_right _ _ (by omega)];simp
theorem kt_setT (i:Nat) (b:ABlock):(kVt C0 C1 seen J n T).set (J.length+4+i) b=kVt C0 C1 seen J n (T.set i b):=by
 simp only [kVt]
 rw [show J.length+4+i=(J.length+1+i)+1+1+1 by omega]
 simp only [List.set_cons_succ]
 rw [List.set_append_right _ _ (by omega),show J.length+1+i - J.length=i+1 by omega]
 rfl
theorem kt_t0 (c:ABlock) (h:J.length+4 < (kVt C0 C1 seen J n (c::T)).length):(kVt C0 C1 seen J n (c::T))[J.length+4]=c:=kt_T C0 C1 seen J n (c::T) 0 c rfl h
theorem kt_s0 (c b:ABlock):(kVt C0 C1 seen J n (c::T)).set (J.length+4) b=kVt C0 C1 seen J n (b::T):=kt_setT C0 C1 seen J n (c::T) 0 b
theorem kt_cut (n':Nat) (c:ABlock):(kVt C0 C1 seen J n [c]).set (J.length+3) .gone++[.tok n' 2 none]=kVt C0 C1 seen (J++[.gone,c]) n' []:=by
 simp only [kVt,List.set_cons_succ]
 rw [List.set_append_right _ _ (by omega)]
 simp
theorem wk_pre {m:Nat}:∀ {A T T':List ABlock},(∀ b∈A,ABlock.low m b)→WkBs m T T'→WkBs m (A++T) (A++T')
 | [],_,_,_,h=>h
 | a::A,_,_,hA,h=>⟨WkB.refl _,hA a (by simp),wk_pre (fun b hb=>hA b (by simp [hb])) h⟩
theorem kt_wk (m:Nat) (h0:lowL m C0) (h1:lowL m C1) (hJ:JOk J) (T':List ABlock) (h:WkBs m T T'):WkBs m (kVt C0 C1 seen J n T) (kVt C0 C1 seen J n T') :=
 ⟨WkB.refl _,h0,WkB.refl _,h1,WkB.refl _,low_met m seen,wk_pre (hJ m) ⟨WkB.refl _,trivial,h⟩⟩
end
theorem wk_nil (m:Nat) (T:List ABlock):WkBs m T []:=by cases T <;> trivial
theorem jok_ty {J:List ABlock} (hJ:JOk J) (n:ByteArray) (l:List Ty):JOk (J++[.gone,.cells [strV n,.slice (l.map Ty.cells) none]]):=fun m b hb=>by
 rcases List.mem_append.1 hb with h | h
 ·exact hJ m b h
 ·simp only [List.mem_cons,List.not_mem_nil,or_false] at h
  rcases h with rfl | rfl
  ·trivial
  ·simp [Ty.cells,cellsL_eq]
set_option maxHeartbeats 4000000 in
theorem dValued_c (d:DeclsD) (hd:CntD d) (t:Ty) (ht:t.cnt < 1000000000000) (f:Nat) (b:Bool) (hf:valF d f t.nodes []=some b) (H:AHeap):ACalls Tryz.prog 63 [d.enc,t.enc] H (intV (valV b t)) H:=by
 have hnm:=fun n=>named_c d hd.ds n
 have hno:=nodes_c t ht
 have hnT:=nodesT_c t ht
 have hnl:t.nodes.length < 1000000000000:=ht
 have e0:valV b t=if b=true then 6 else if t.nodes.any dVarB=true then 6 else 0:=rfl
 generalize valV b t=vv at e0 ⊢
 generalize t.nodes=N at *
 obtain ⟨tn,tl⟩:=t
 simp only [enc_mk,Ty.cells,cellsL_eq] at hno hnT ⊢
 clear ht
 refine acalls_walk (fun t=>if t=26 then .cut else .imm) [0,1,2,3,4,5,6,7,8,9,11,13,15,21,29,44,49,50,51,52,56,57,58,59,69,70,71,72,76] Tryz.mixed Tryz.func63 rfl rfl rfl (by decide) (fun hcl hlow=>?_)
 have hl0:∀ m,lowL m [AV.slice (d.datas.map Dat.cells) none,AV.slice (d.classes.map ClsD.cells) none,AV.slice (d.insts.map InstD.cells) none]:=fun m=>low_decls m d
 have hl1:∀ m,lowL m [strV tn,AV.slice (tl.map Ty.cells) none]:=fun m=>by simp [low_map]
 repeat with_reducible refine awp_assoc ?_
 refine awp_sr fun K hK=>?_
 simp
 refine hK _ _ ?_
 clear hK K
 repeat with_reducible refine awp_assoc ?_
 refine awp_sr fun K hK=>?_
 simp
 refine hK _ _ ?_
 clear hK K
 have hc1:ACalls Tryz.prog 37 [.agg [strV tn,.slice (tl.map Ty.cells) none]] (HL H [.cells [.slice (d.datas.map Dat.cells) none,.slice (d.classes.map ClsD.cells) none,.slice (d.insts.map InstD.cells) none],.cells [strV tn,.slice (tl.map Ty.cells) none],.amap [] 0]) (.slice (N.map Ty.cells) (some (nid H.next 4))) (HL H [.cells [.slice (d.datas.map Dat.cells) none,.slice (d.classes.map ClsD.cells) none,.slice (d.insts.map InstD.cells) none],.cells [strV tn,.slice (tl.map Ty.cells) none],.amap [] 0,.cells [strV tn,.slice (tl.map Ty.cells) none],.tok N.length 2 none]):=by
  have:=hnT (HL H [.cells [.slice (d.datas.map Dat.cells) none,.slice (d.classes.map ClsD.cells) none,.slice (d.insts.map InstD.cells) none],.cells [strV tn,.slice (tl.map Ty.cells) none],.amap [] 0])
  simpa [HL_HL,nid_nid] using this
 repeat with_reducible refine awp_assoc ?_
 refine awp_sr fun K hK=>?_
 refine aOps_split 1 fun K hK=>?_
 simp
 refine hK _ _ ?_
 clear hK K
 refine aOps_call (hc1) (by first | rfl | simp) rfl rfl (by first | (simp;done) | rfl) ?_
 simp
 refine hK _ _ ?_
 clear hK K
 refine awp_seq_k fun KO hKO=>?_
 refine awp_block ?_
 refine awp_loop (fun m env H'=>∃ (J:List ABlock) (work:List Ty) (seen:List ByteArray),valF d m work seen=some b∧JOk J ∧
   env=Env.ofL [(2,.ref (nid H.next 0) 0),(3,.ref (nid H.next 1) 0),(5,.map (nid H.next 2)),(6,.slice (work.map Ty.cells) (some (nid H.next (J.length+3))))]∧H'=HL H (kVt [.slice (d.datas.map Dat.cells) none,.slice (d.classes.map ClsD.cells) none,.slice (d.insts.map InstD.cells) none] [strV tn,.slice (tl.map Ty.cells) none] seen J work.length [])) f
  (weak_HL hcl rfl (by simp [kVt,metEs,WkEs,lowEs,low_map]) (by simp [kVt,low_map])) ⟨[.cells [strV tn,.slice (tl.map Ty.cells) none]],N,[],hf,fun m b hb=>by
   simp only [List.mem_cons,List.not_mem_nil,or_false] at hb
   subst hb;exact hl1 m,rfl,rfl⟩ ?_
 rintro m env H' ⟨J,work,seen,hm,hJ,rfl,rfl⟩
 cases m with
 | zero=>cases hm
 | succ m =>
 cases work with
 | nil =>
  simp only [valF,Option.some.injEq] at hm
  subst hm
  repeat with_reducible refine awp_assoc ?_
  refine awp_sr fun K hK=>?_
  simp
  refine hK _ _ ?_
  clear hK K
  repeat with_reducible refine awp_assoc ?_
  refine awp_seq_k fun K hK=>?_
  refine awp_condF rfl (by simp) ?_
  refine awp_exit ?_
  simp
  refine hKO _ _ ?_
  clear hK hKO
  repeat with_reducible refine awp_assoc ?_
  refine awp_sr fun K hK=>?_
  refine aOps_split 1 fun K hK=>?_
  simp [kt_len,kt_1]
  refine hK _ _ ?_
  clear hK K
  refine aOps_call (hno _) (by first | rfl | simp) rfl rfl (by first | (simp;done) | rfl) ?_
  simp
  refine hK _ _ ?_
  clear hK K
  refine awp_seq_k fun K hK=>?_
  refine awp_block ?_
  refine awp_up N.length (fun k=>Env.ofL [(69,.slice (N.map Ty.cells) none),(70,intV (N.length:Int)),(71,intV k)]) (fun k=>HL H [.cells [.slice (d.datas.map Dat.cells) none,.slice (d.classes.map ClsD.cells) none,.slice (d.insts.map InstD.cells) none],.cells [strV tn,.slice (tl.map Ty.cells) none]]) (fun k=>(N.take k).any dVarB=false) (weak_HL hcl rfl ⟨WkB.refl _,hl0 _,WkB.refl _,hl1 _,trivial⟩ (by simp [low_map])) (by simp) (fun k hk hvk=>?_) (fun hvk=>?_)
  ·obtain ⟨x,hx⟩:∃ x,N[k]?=some x:=⟨_,List.getElem?_eq_getElem hk⟩
   have hbx:=any_at (p:=dVarB) hx
   have hms:=miss (p:=dVarB) hx hvk
   have hc:=dIsVar_c x
   have hb1:dVarB x=dVarB (.mk x.name x.args):=by cases x;rfl
   obtain ⟨xn,xl⟩:=x
   simp only [enc_mk] at hc
   repeat with_reducible refine awp_assoc ?_
   refine awp_sr fun K hK=>?_
   simp [hk]
   refine hK _ _ ?_
   clear hK K
   repeat with_reducible refine awp_assoc ?_
   refine awp_seq_k fun K hK=>?_
   refine awp_condT rfl (by simp) ?_
   refine awp_skip ?_
   refine hK _ _ ?_
   clear hK K
   refine awp_seq_k fun KB hKB=>?_
   refine awp_block ?_
   repeat with_reducible refine awp_assoc ?_
   refine awp_sr fun K hK=>?_
   simp [hx,Ty.cells]
   refine hK _ _ ?_
   clear hK K
   repeat with_reducible refine awp_assoc ?_
   refine awp_sr fun K hK=>?_
   refine aOps_split 1 fun K hK=>?_
   simp
   refine hK _ _ ?_
   clear hK K
   refine aOps_call (hc _) (by first | rfl | simp) rfl rfl (by first | (simp;done) | rfl) ?_
   simp
   refine hK _ _ ?_
   clear hK K
   cases hb:dVarB (Ty.mk xn xl)
   ·refine awp_condF rfl (by simp) ?_
    refine awp_skip ?_
    refine hKB _ _ ?_
    clear hKB
    refine awp_region ?_
    simp [wrap_succ (show k < 4611686018427387904 by omega)]
    refine ⟨by simpa using hms hb,weak_HL hcl rfl ⟨WkB.refl _,hl0 _,WkB.refl _,hl1 _,trivial⟩ (by simp [low_map])⟩
   ·refine awp_condT rfl (by simp) ?_
    repeat with_reducible refine awp_assoc ?_
    refine awp_sr fun K hK=>?_
    simp
    refine hK _ _ ?_
    clear hK K
    rw [e0,if_neg (by decide),if_pos (hbx hb)]
    simp [reset_all hcl]
  rw [List.take_length] at hvk
  rw [if_neg (by decide),if_neg (by rw [hvk];decide)] at e0
  repeat with_reducible refine awp_assoc ?_
  refine awp_sr fun K hK=>?_
  simp
  refine hK _ _ ?_
  clear hK K
  repeat with_reducible refine awp_assoc ?_
  refine awp_seq_k fun K hK=>?_
  refine awp_condF rfl (by simp) ?_
  refine awp_exit ?_
  simp
  clear hK K
  refine hK _ _ ?_
  clear hK K
  repeat with_reducible refine awp_assoc ?_
  refine awp_sr fun K hK=>?_
  simp
  refine hK _ _ ?_
  clear hK K
  rw [e0]
  simp [reset_all hcl]
 | cons x work =>
 have hm2:(if x.name=arrowN then some true
  else if (!(namedD d x.name).2 || memS x.name seen)=true then valF d m work seen
  else if 1000000000 < (work++conNodes (namedD d x.name).1).length then none
  else valF d m (work++conNodes (namedD d x.name).1) (seen++[x.name]))=some b:=hm
 clear hm
 have hnx:=hnm x.name
 have hxc:=hd.cons x.name
 have hxa:=hd.args x.name
 generalize namedD d x.name=nd at *
 obtain ⟨xn,xl⟩:=x
 simp only [Ty.name] at *
 obtain ⟨⟨dn,dv,dc⟩,db⟩:=nd
 simp only at *
 repeat with_reducible refine awp_assoc ?_
 refine awp_sr fun K hK=>?_
 simp
 refine hK _ _ ?_
 clear hK K
 repeat with_reducible refine awp_assoc ?_
 refine awp_seq_k fun K hK=>?_
 refine awp_condT rfl (by simp) ?_
 refine awp_skip ?_
 refine hK _ _ ?_
 clear hK K
 refine awp_block ?_
 repeat with_reducible refine awp_assoc ?_
 refine awp_sr fun K hK=>?_
 refine aOps_split 3 fun K hK=>?_
 simp [Ty.cells]
 refine hK _ _ ?_
 clear hK K
 refine aOps_split 1 fun K hK=>?_
 simp [kt_len]
 refine hK _ _ ?_
 clear hK K
 rw [kt_app]
 refine aOps_split 1 fun K hK=>?_
 simp [kt_len,kt_t0,kt_s0]
 refine hK _ _ ?_
 clear hK K
 simp
 refine hK _ _ ?_
 clear hK K
 refine awp_sr fun K hK=>?_
 simp [aCut,kt_len,kt_tok,isCut,bnd,kt_cut]
 rw [show J.length+4+1=J.length+5 from rfl]
 refine hK _ _ ?_
 clear hK K
 have hJ2:=jok_ty hJ xn xl
 generalize hJe:J++[.gone,.cells [strV xn,.slice (xl.map Ty.cells) none]]=J2 at hJ2 ⊢
 have hJl:J2.length=J.length+2:=by rw [←hJe];simp
 have hg:∀ s n T (h:J.length+4 < (kVt [.slice (d.datas.map Dat.cells) none,.slice (d.classes.map ClsD.cells) none,.slice (d.insts.map InstD.cells) none] [strV tn,.slice (tl.map Ty.cells) none] s J2 n T).length),(kVt [.slice (d.datas.map Dat.cells) none,.slice (d.classes.map ClsD.cells) none,.slice (d.insts.map InstD.cells) none] [strV tn,.slice (tl.map Ty.cells) none] s J2 n T)[J.length+4]=.cells [strV xn,.slice (xl.map Ty.cells) none]:=by
  intro s n T h
  have:(kVt [.slice (d.datas.map Dat.cells) none,.slice (d.classes.map ClsD.cells) none,.slice (d.insts.map InstD.cells) none] [strV tn,.slice (tl.map Ty.cells) none] s J2 n T)[J.length+4]?=some (.cells [strV xn,.slice (xl.map Ty.cells) none]):=by rw [←hJe];simp [kVt]
  rw [List.getElem?_eq_getElem h] at this
  exact Option.some.inj this
 have hg3:∀ s n T (h:J.length+5 < (kVt [.slice (d.datas.map Dat.cells) none,.slice (d.classes.map ClsD.cells) none,.slice (d.insts.map InstD.cells) none] [strV tn,.slice (tl.map Ty.cells) none] s J2 n T).length),(kVt [.slice (d.datas.map Dat.cells) none,.slice (d.classes.map ClsD.cells) none,.slice (d.insts.map InstD.cells) none] [strV tn,.slice (tl.map Ty.cells) none] s J2 n T)[J.length+5]=.tok n 2 none:=fun s n T h=>by
  have:=kt_tok [.slice (d.datas.map Dat.cells) none,.slice (d.classes.map ClsD.cells) none,.slice (d.insts.map InstD.cells) none] [strV tn,.slice (tl.map Ty.cells) none] s J2 n T (by rw [kt_len];omega)
  simpa only [hJl] using this
 have hst:∀ s n n' T,(kVt [.slice (d.datas.map Dat.cells) none,.slice (d.classes.map ClsD.cells) none,.slice (d.insts.map InstD.cells) none] [strV tn,.slice (tl.map Ty.cells) none] s J2 n T).set (J.length+5) (.tok n' 2 none)=kVt [.slice (d.datas.map Dat.cells) none,.slice (d.classes.map ClsD.cells) none,.slice (d.insts.map InstD.cells) none] [strV tn,.slice (tl.map Ty.cells) none] s J2 n' T:=fun s n n' T=>by
  have:=kt_settok [.slice (d.datas.map Dat.cells) none,.slice (d.classes.map ClsD.cells) none,.slice (d.insts.map InstD.cells) none] [strV tn,.slice (tl.map Ty.cells) none] s J2 n T n'
  simpa only [hJl] using this
 have hgT:∀ s n T c i (h0:T[i]?=some c) (h:J.length+6+i < (kVt [.slice (d.datas.map Dat.cells) none,.slice (d.classes.map ClsD.cells) none,.slice (d.insts.map InstD.cells) none] [strV tn,.slice (tl.map Ty.cells) none] s J2 n T).length),(kVt [.slice (d.datas.map Dat.cells) none,.slice (d.classes.map ClsD.cells) none,.slice (d.insts.map InstD.cells) none] [strV tn,.slice (tl.map Ty.cells) none] s J2 n T)[J.length+6+i]=c:=fun s n T c i h0 h=>by
  have:=kt_T [.slice (d.datas.map Dat.cells) none,.slice (d.classes.map ClsD.cells) none,.slice (d.insts.map InstD.cells) none] [strV tn,.slice (tl.map Ty.cells) none] s J2 n T i c h0 (by rw [hJl];exact h)
  simpa only [hJl] using this
 have hsT:∀ s n T i b,(kVt [.slice (d.datas.map Dat.cells) none,.slice (d.classes.map ClsD.cells) none,.slice (d.insts.map InstD.cells) none] [strV tn,.slice (tl.map Ty.cells) none] s J2 n T).set (J.length+6+i) b=kVt [.slice (d.datas.map Dat.cells) none,.slice (d.classes.map ClsD.cells) none,.slice (d.insts.map InstD.cells) none] [strV tn,.slice (tl.map Ty.cells) none] s J2 n (T.set i b):=fun s n T i b=>by
  have:=kt_setT [.slice (d.datas.map Dat.cells) none,.slice (d.classes.map ClsD.cells) none,.slice (d.insts.map InstD.cells) none] [strV tn,.slice (tl.map Ty.cells) none] s J2 n T i b
  simpa only [hJl] using this
 clear hJe
 by_cases hA:xn=arrowN
 ·rw [if_pos hA] at hm2
  simp only [Option.some.injEq] at hm2
  subst hm2
  rw [if_pos rfl] at e0
  repeat with_reducible refine awp_assoc ?_
  refine awp_sr fun K hK=>?_
  simp [kt_len,hJl,hg]
  refine hK _ _ ?_
  clear hK K
  repeat with_reducible refine awp_assoc ?_
  refine awp_seq_k fun K hK=>?_
  refine awp_condT rfl (by simp [hA,arrowN]) ?_
  repeat with_reducible refine awp_assoc ?_
  refine awp_sr fun K hK=>?_
  simp
  refine hK _ _ ?_
  clear hK K
  rw [e0]
  simp [reset_all hcl]
 rw [if_neg hA] at hm2
 have hA':¬ xn=⟨#[45,62]⟩:=hA
 repeat with_reducible refine awp_assoc ?_
 refine awp_sr fun K hK=>?_
 simp [kt_len,hJl,hg,hA']
 refine hK _ _ ?_
 clear hK K
 repeat with_reducible refine awp_assoc ?_
 refine awp_seq_k fun K hK=>?_
 refine awp_condF rfl (by simp [hA']) ?_
 refine awp_skip ?_
 refine hK _ _ ?_
 clear hK K
 repeat with_reducible refine awp_assoc ?_
 refine awp_sr fun K hK=>?_
 refine aOps_split 3 fun K hK=>?_
 simp [kt_len,kt_0,hJl,hg]
 refine hK _ _ ?_
 clear hK K
 refine aOps_call (hnx _) (by first | rfl | simp) rfl rfl (by first | (simp;done) | rfl) ?_
 refine aOps_split 3 fun K hK=>?_
 simp
 refine hK _ _ ?_
 clear hK K
 refine aOps_split 1 fun K hK=>?_
 simp [kt_len,hJl]
 refine hK _ _ ?_
 clear hK K
 rw [kt_app]
 have hg60:=fun s n c T h=>hgT s n (c::T) c 0 rfl h
 have hs60:=fun s n c T b=>hsT s n (c::T) 0 b
 have hg61:=fun s n c0 c T h=>hgT s n (c0::c::T) c 1 rfl h
 have hs61:=fun s n c0 c T b=>hsT s n (c0::c::T) 1 b
 have hg62:=fun s n c0 c1 c T h=>hgT s n (c0::c1::c::T) c 2 rfl h
 have hs62:=fun s n c0 c1 c T b=>hsT s n (c0::c1::c::T) 2 b
 simp only [Nat.add_zero,List.set_cons_zero,List.set_cons_succ] at hg60 hs60 hg61 hs61 hg62 hs62
 clear hgT hsT
 refine aOps_split 1 fun K hK=>?_
 simp [kt_len,hJl,hg60,hs60]
 refine hK _ _ ?_
 clear hK K
 simp
 refine hK _ _ ?_
 clear hK K
 have hout:valF d m work seen=some b→∀ (T:List ABlock) (env:Env),env 2=.ref (nid H.next 0) 0→env 3=.ref (nid H.next 1) 0→env 5=.map (nid H.next 2)→env 6=.slice (work.map Ty.cells) (some (nid H.next (J.length+5))) →
   ∃ m' env' H',Weak H.next env (HL H (kVt [.slice (d.datas.map Dat.cells) none,.slice (d.classes.map ClsD.cells) none,.slice (d.insts.map InstD.cells) none] [strV tn,.slice (tl.map Ty.cells) none] seen J2 work.length T)) env' H'∧m' < m+1∧∃ (J:List ABlock) (work:List Ty) (seen:List ByteArray),valF d m' work seen=some b∧JOk J ∧
   env'=Env.ofL [(2,.ref (nid H.next 0) 0),(3,.ref (nid H.next 1) 0),(5,.map (nid H.next 2)),(6,.slice (work.map Ty.cells) (some (nid H.next (J.length+3))))]∧H'=HL H (kVt [.slice (d.datas.map Dat.cells) none,.slice (d.classes.map ClsD.cells) none,.slice (d.insts.map InstD.cells) none] [strV tn,.slice (tl.map Ty.cells) none] seen J work.length []):=by
  intro h T env e2 e3 e5 e6
  refine ⟨m,_,_,weak_HL hcl rfl (kt_wk _ _ _ _ _ T _ (hl0 _) (hl1 _) hJ2 [] ?_) ?_,Nat.lt_succ_self m,J2,work,seen,h,hJ2,rfl,rfl⟩
  ·cases T <;> trivial
  ·simp [e2,e3,e5,e6,hJl,low_map,kt_len,nid_lt_nid]
 by_cases hskip:(!db || memS xn seen)=true
 ·rw [if_pos hskip] at hm2
  have hex:=hout hm2
  clear hout
  cases db
  ·repeat with_reducible refine awp_assoc ?_
   refine awp_sr fun K hK=>?_
   simp
   refine hK _ _ ?_
   clear hK K
   repeat with_reducible refine awp_assoc ?_
   refine awp_seq_k fun K hK=>?_
   refine awp_condT rfl (by simp) ?_
   refine awp_exit ?_
   simp
   exact hex _ _ rfl rfl rfl rfl
  ·have hmm:memS xn seen=true:=by simpa using hskip
   repeat with_reducible refine awp_assoc ?_
   refine awp_sr fun K hK=>?_
   refine aOps_split 6 fun K hK=>?_
   simp [kt_len,hJl,hg]
   refine hK _ _ ?_
   clear hK K
   simp [aLookup,kt_len,kt_2,keys_met,keyOk,aLook_met,hmm]
   refine hK _ _ ?_
   clear hK K
   repeat with_reducible refine awp_assoc ?_
   refine awp_seq_k fun K hK=>?_
   refine awp_condT rfl (by simp) ?_
   refine awp_exit ?_
   simp
   exact hex _ _ rfl rfl rfl rfl
 clear hout
 rw [if_neg hskip] at hm2
 obtain ⟨rfl,hmm⟩:db=true∧memS xn seen=false:=by
  cases db <;> simp at hskip
  exact ⟨rfl,hskip⟩
 have hv1:aVer (metEs seen) (.string xn) seen.length true=(seen++[xn]).length:=by simp [aVer,aLook_met,hmm]
 by_cases hbig:1000000000 < (work++conNodes ⟨dn,dv,dc⟩).length
 ·rw [if_pos hbig] at hm2;cases hm2
 rw [if_neg hbig] at hm2
 repeat with_reducible refine awp_assoc ?_
 refine awp_sr fun K hK=>?_
 refine aOps_split 6 fun K hK=>?_
 simp [kt_len,hJl,hg]
 refine hK _ _ ?_
 clear hK K
 simp [aLookup,kt_len,kt_2,keys_met,keyOk,aLook_met,hmm]
 refine hK _ _ ?_
 clear hK K
 repeat with_reducible refine awp_assoc ?_
 refine awp_seq_k fun K hK=>?_
 refine awp_condF rfl (by simp) ?_
 refine awp_skip ?_
 refine hK _ _ ?_
 clear hK K
 repeat with_reducible refine awp_assoc ?_
 refine awp_sr fun K hK=>?_
 refine aOps_split 3 fun K hK=>?_
 simp [kt_len,hJl,hg]
 refine hK _ _ ?_
 clear hK K
 simp [aMapUpdate,kt_len,kt_2,keys_met,keyOk,aPut_met hmm,hv1,kt_set2']
 refine hK _ _ ?_
 clear hK K
 generalize seen++[xn]=seen' at *
 repeat with_reducible refine awp_assoc ?_
 refine awp_sr fun K hK=>?_
 simp [kt_len,hJl,hg60]
 refine hK _ _ ?_
 clear hK K
 have hcn:conNodes ⟨dn,dv,dc⟩=dc.flatMap fun c=>nodesL c.args:=rfl
 rw [hcn] at hm2 hbig
 refine awp_hide fun Q hQ=>?_
 refine awp_block ?_
 refine awp_up dc.length (fun i=>Env.ofL [(2,.ref (nid H.next 0) 0),(3,.ref (nid H.next 1) 0),(5,.map (nid H.next 2)),(6,.slice ((work++(dc.take i).flatMap fun c=>nodesL c.args).map Ty.cells) (some (nid H.next (J.length+5)))),(49,.slice (dc.map ConD.cells) none),(50,intV (dc.length:Int)),(51,intV i)]) (fun i=>HL H (kVt [.slice (d.datas.map Dat.cells) none,.slice (d.classes.map ClsD.cells) none,.slice (d.insts.map InstD.cells) none] [strV tn,.slice (tl.map Ty.cells) none] seen' J2 (work++(dc.take i).flatMap fun c=>nodesL c.args).length [])) (fun _=>True) (weak_HL hcl rfl (by simp only [List.take_zero,List.flatMap_nil,List.append_nil];exact kt_wk _ _ _ _ _ _ _ (hl0 _) (hl1 _) hJ2 _ (wk_nil _ _)) (by simp [hJl,low_map,kt_len,nid_lt_nid])) trivial (fun i hi _=>?_) (fun _=>?_)
 ·obtain ⟨c,hc⟩:∃ c,dc[i]?=some c:=⟨_,List.getElem?_eq_getElem hi⟩
  have hca:=hxa c (List.mem_of_getElem? hc)
  have en:(dc.take (i+1)).flatMap (fun c=>nodesL c.args)=(dc.take i).flatMap (fun c=>nodesL c.args)++nodesL c.args:=fm_take hc
  have ebd:(work++(dc.take i).flatMap fun c=>nodesL c.args).length+(nodesL c.args).length≤1000000000:=by
   have h1:dc.flatMap (fun c=>nodesL c.args)=(dc.take (i+1)).flatMap (fun c=>nodesL c.args)++(dc.drop (i+1)).flatMap (fun c=>nodesL c.args):=by rw [←List.flatMap_append,List.take_append_drop]
   have h2:=congrArg List.length h1
   rw [en] at h2
   simp only [List.length_append] at h2 hbig ⊢
   omega
  rw [en,←List.append_assoc]
  generalize work++(dc.take i).flatMap (fun c=>nodesL c.args)=P at *
  clear en hm2
  obtain ⟨cn,cl⟩:=c
  simp only at hca ebd ⊢
  repeat with_reducible refine awp_assoc ?_
  refine awp_sr fun K hK=>?_
  simp [hi]
  refine hK _ _ ?_
  clear hK K
  repeat with_reducible refine awp_assoc ?_
  refine awp_seq_k fun K hK=>?_
  refine awp_condT rfl (by simp) ?_
  refine awp_skip ?_
  refine hK _ _ ?_
  clear hK K
  refine awp_seq_k fun KB hKB=>?_
  refine awp_block ?_
  repeat with_reducible refine awp_assoc ?_
  refine awp_sr fun K hK=>?_
  refine aOps_split 2 fun K hK=>?_
  simp [hc]
  refine hK _ _ ?_
  clear hK K
  refine aOps_split 1 fun K hK=>?_
  simp [kt_len,hJl]
  refine hK _ _ ?_
  clear hK K
  rw [kt_app]
  refine aOps_split 1 fun K hK=>?_
  simp [kt_len,hJl,hg60,hs60]
  refine hK _ _ ?_
  clear hK K
  simp
  refine hK _ _ ?_
  clear hK K
  repeat with_reducible refine awp_assoc ?_
  refine awp_sr fun K hK=>?_
  simp [kt_len,hJl,hg60]
  refine hK _ _ ?_
  clear hK K
  refine awp_hide fun Q2 hQ2=>?_
  refine awp_block ?_
  refine awp_up cl.length (fun j=>Env.ofL [(2,.ref (nid H.next 0) 0),(3,.ref (nid H.next 1) 0),(5,.map (nid H.next 2)),(6,.slice ((P++nodesL (cl.take j)).map Ty.cells) (some (nid H.next (J.length+5)))),(49,.slice (dc.map ConD.cells) none),(50,intV (dc.length:Int)),(51,intV i),(56,.slice (cl.map Ty.cells) none),(57,intV (cl.length:Int)),(58,intV j)]) (fun j=>HL H (kVt [.slice (d.datas.map Dat.cells) none,.slice (d.classes.map ClsD.cells) none,.slice (d.insts.map InstD.cells) none] [strV tn,.slice (tl.map Ty.cells) none] seen' J2 (P++nodesL (cl.take j)).length [])) (fun _=>True) (weak_HL hcl rfl (by simp only [List.take_zero,nodesL,List.append_nil];exact kt_wk _ _ _ _ _ _ _ (hl0 _) (hl1 _) hJ2 _ (wk_nil _ _)) (by simp [hJl,low_map,kt_len,nid_lt_nid,nodesL])) trivial (fun j hj _=>?_) (fun _=>?_)
  ·obtain ⟨a,ha⟩:∃ a,cl[j]?=some a:=⟨_,List.getElem?_eq_getElem hj⟩
   have haa:=hca.2 a (List.mem_of_getElem? ha)
   have hna:=nodes_c a haa
   have e2:P++nodesL (cl.take (j+1))=P++nodesL (cl.take j)++a.nodes:=by rw [nodesL_take ha,List.append_assoc]
   have hbd:(P++nodesL (cl.take j)).length+a.nodes.length≤1000000000:=by
    have h2:nodesL cl=nodesL (cl.take (j+1))++nodesL (cl.drop (j+1)):=by rw [←nodesL_append,List.take_append_drop]
    have h3:=congrArg List.length h2
    rw [nodesL_take ha] at h3
    simp only [List.length_append] at h3 ebd ⊢
    omega
   have hne:a.nodes≠[]:=by obtain ⟨xn,xl⟩:=a;simp [Ty.nodes]
   rw [e2]
   generalize P++nodesL (cl.take j)=P2 at *
   generalize a.nodes=X at *
   obtain ⟨an,al⟩:=a
   simp only [enc_mk] at hna
   repeat with_reducible refine awp_assoc ?_
   refine awp_sr fun K hK=>?_
   simp [hj]
   refine hK _ _ ?_
   clear hK K
   repeat with_reducible refine awp_assoc ?_
   refine awp_seq_k fun K hK=>?_
   refine awp_condT rfl (by simp) ?_
   refine awp_skip ?_
   refine hK _ _ ?_
   clear hK K
   refine awp_seq_k fun KC hKC=>?_
   refine awp_block ?_
   repeat with_reducible refine awp_assoc ?_
   refine awp_sr fun K hK=>?_
   refine aOps_split 2 fun K hK=>?_
   simp [ha,Ty.cells]
   refine hK _ _ ?_
   clear hK K
   refine aOps_split 1 fun K hK=>?_
   simp [kt_len,hJl]
   refine hK _ _ ?_
   clear hK K
   rw [kt_app]
   refine aOps_split 1 fun K hK=>?_
   simp [kt_len,hJl,hg60,hs60]
   refine hK _ _ ?_
   clear hK K
   simp
   refine hK _ _ ?_
   clear hK K
   refine awp_region ?_
   refine aOps_split 2 fun K hK=>?_
   simp [kt_len,hJl,hg60]
   refine hK _ _ ?_
   clear hK K
   refine aOps_call (hna _) (by first | rfl | simp) rfl rfl (by first | (simp;done) | rfl) ?_
   refine aOps_split 1 fun K2 hK2=>?_
   simp [hne,kt_len,hJl,hg3,hst]
   refine ⟨fun a _=>by obtain ⟨_,_⟩:=a;simp [Ty.cells],by omega,hK2 _ _ ?_⟩
   clear hK2 K2
   simp
   refine hKC _ _ ?_
   clear hKC
   refine awp_region ?_
   simp [wrap_succ (show j < 4611686018427387904 by omega)]
   refine weak_HL hcl rfl ?_ (by simp [hJl,low_map,kt_len,nid_lt_nid])
   exact kt_wk _ _ _ _ _ _ _ (hl0 _) (hl1 _) hJ2 _ (wk_nil _ _)
  ·rw [List.take_length]
   repeat with_reducible refine awp_assoc ?_
   refine awp_sr fun K hK=>?_
   simp
   refine hK _ _ ?_
   clear hK K
   repeat with_reducible refine awp_assoc ?_
   refine awp_seq_k fun K hK=>?_
   refine awp_condF rfl (by simp) ?_
   refine awp_exit ?_
   simp
   refine hQ2 _ _ _ ?_
   refine hKB _ _ ?_
   clear hKB
   refine awp_region ?_
   simp [wrap_succ (show i < 4611686018427387904 by omega)]
   refine weak_HL hcl rfl ?_ (by simp [hJl,low_map,kt_len,nid_lt_nid])
   exact kt_wk _ _ _ _ _ _ _ (hl0 _) (hl1 _) hJ2 _ (wk_nil _ _)
 ·rw [List.take_length]
  repeat with_reducible refine awp_assoc ?_
  refine awp_sr fun K hK=>?_
  simp
  refine hK _ _ ?_
  clear hK K
  repeat with_reducible refine awp_assoc ?_
  refine awp_seq_k fun K hK=>?_
  refine awp_condF rfl (by simp) ?_
  refine awp_exit ?_
  simp
  refine hQ _ _ _ ?_
  simp
  refine ⟨m,_,HL H (kVt [.slice (d.datas.map Dat.cells) none,.slice (d.classes.map ClsD.cells) none,.slice (d.insts.map InstD.cells) none] [strV tn,.slice (tl.map Ty.cells) none] seen' J2 (work++dc.flatMap fun c=>nodesL c.args).length []),weak_HL hcl rfl ?_ ?_,by omega,J2,work++dc.flatMap fun c=>nodesL c.args,seen',hm2,hJ2,rfl,rfl⟩
  ·simpa using kt_wk [.slice (d.datas.map Dat.cells) none,.slice (d.classes.map ClsD.cells) none,.slice (d.insts.map InstD.cells) none] [strV tn,.slice (tl.map Ty.cells) none] seen' J2 (work++dc.flatMap fun c=>nodesL c.args).length [] _ (hl0 _) (hl1 _) hJ2 [] trivial
  ·simp [hJl,low_map,kt_len,nid_lt_nid]
end Go.Proofs.YtlhoigpidpokfaaGreat
