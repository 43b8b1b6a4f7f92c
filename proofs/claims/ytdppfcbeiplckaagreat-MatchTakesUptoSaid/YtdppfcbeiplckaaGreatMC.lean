/- Steps with calls and iterations, and regions in the order of the text. -/
import Derived.Test.YtdppfcbeiplckaaGreatMB
import Derived.OrdersIn
import Derived.RangeFuncSeq
import Derived.RangeFuncCalls
import Derived.RangeFuncNested
set_option linter.unusedVariables false
set_option linter.unusedSimpArgs false
namespace Go.Abs
open Go
def ACallsR (P:Program) (f:FuncId) (args:List AV) (H:AHeap) (R:AV→AHeap→Prop):Prop :=
 (∃ fn, P.funcs[f]? = some fn ∧ fn.name ≠ "runtime.NumGoroutine" ∧ fn.body.isSome = true) ∧
 ∀ K w (cargs:Array Value),Inv K w H→RepL K w args cargs.toList →
  Calls P f cargs w fun e w'=>∃ K' v x H',e=.returned x∧Ext K w H K' w' H'∧Rep K' w' v x∧R v H'
theorem ACallsR.mono {P:Program} {f:FuncId} {args:List AV} {H:AHeap} {R R':AV→AHeap→Prop} (h:ACallsR P f args H R) (hr:∀ v H',R v H'→R' v H'):ACallsR P f args H R' :=
 ⟨h.1,fun K w cargs hI ha=>(h.2 K w cargs hI ha).mono fun e w' ⟨K',v,x,H',h1,h2,h3,h4⟩=>⟨K',v,x,H',h1,h2,h3,hr _ _ h4⟩⟩
abbrev ACalls (P:Program) (f:FuncId) (args:List AV) (H:AHeap) (v:AV) (H':AHeap):Prop:=ACallsR P f args H fun v' H''=>v'=v∧H''=H'
abbrev fenceR (ro:Option Nat):Fence:={ Fence.wide with round:=ro }
def AYieldR (P:Program) (i:Nat) (args:List AV) (H:AHeap) (R:AV→AHeap→Prop):Prop :=
 ∀ K w (cargs:Array Value) b,K.io i=some b→Inv K w H→RepL K w args cargs.toList →
  YieldAt Fence.wide 0 P b cargs w fun e w'=>∃ K' v x H',e=.returned x∧Ext K w H K' w' H'∧Rep K' w' v x∧R v H'
theorem AYieldR.mono {P:Program} {i:Nat} {args:List AV} {H:AHeap} {R R':AV→AHeap→Prop} (h:AYieldR P i args H R) (hr:∀ v H',R v H'→R' v H'):AYieldR P i args H R' :=
 fun K w cargs b hb hI ha=>let ⟨fn,tmps,assign,body,h1,h2⟩:=h K w cargs b hb hI ha;⟨fn,tmps,assign,body,h1,h2.mono fun e w' ⟨K',v,x,H',g1,g2,g3,g4⟩=>⟨K',v,x,H',g1,g2,g3,hr _ _ g4⟩⟩
def aNext (H:AHeap) (Kn:AV→AHeap→Prop) (it:AV):Prop :=
 match it with
 | .ref id 0=>(match H.get id with
  | some (.iter m ver left _)=>(match H.get m with
   | some (.amap es ver')=>ver'=ver∧(left=[]→Kn (.tuple [.v (.bool false)]) H) ∧
     ∀ j∈left,∀ e,es[j]?=some e→Kn (.tuple [.v (.bool true),.v e.1,e.2]) (H.upd id (.iter m ver (left.filter (· != j)) (some j)))
   | _=>False)
  | _=>False)
 | _=>False
def aStep (P:Program) (md:Nat→Mode) (env:Env) (H:AHeap) (Kn:AV→AHeap→Prop) (o:Oper):Prop :=
 match o.op with
 | .call ⟨.value f,args,_⟩=>(match aeval env f with
  | .fn g caps=>ACallsR P g (args.toList.map (aeval env)++caps) H Kn
  | .yld i=>AYieldR P i (args.toList.map (aeval env)) H Kn
  | _=>False)
 | .next it false=>aNext H Kn (aeval env it)
 | _=>aop P md env H (tokW md o.dst Kn) o
def wantedA (ops:Array Oper) (env:Env) (o:Oper):Option Bool :=
 match o.guard with
 | none=>some true
 | some (j,want)=>match (ops[j]?).bind (·.dst) with
  | some d=>(match env d with | .v (.bool b)=>some (b == want) | .tuple _=>some false | _=>none)
  | none=>none
def aOps (P:Program) (md:Nat→Mode) (ops:Array Oper) (Q:Env→AHeap→Prop):List Oper→Env→AHeap→Prop
 | [],env,H=>Q env H
 | o::rest,env,H=>match wantedA ops env o with
  | some true=>aStep P md env H (fun v H'=>aOps P md ops Q rest (env.put o.dst v) H') o
  | some false=>aOps P md ops Q rest (env.put o.dst (.tuple [])) H
  | none=>False
structure EnvOk (K:KW) (w:World) (env:Env) (a:Act) (n:Nat) (ds:List Deferred):Prop where
 size:a.tmps.size=n
 rep:∀ t,Rep K w (env t) (a.tmps.getD t undef)
 defers:a.defers=ds
theorem EnvOk.step {K K':KW} {w w':World} {env:Env} {a:Act} {n:Nat} {ds:List Deferred} (h:EnvOk K w env a n ds) (s:Step K w K' w'):EnvOk K' w' env a n ds:=⟨h.size,fun t=>(h.rep t).mono s.le s.settled,h.defers⟩
theorem EnvOk.put {K:KW} {w:World} {env:Env} {a:Act} {n:Nat} {ds:List Deferred} {d:Option Nat} {v:AV} {x:Value} (h:EnvOk K w env a n ds) (hd:∀ t,d=some t→t < n) (hv:Rep K w v x):EnvOk K w (env.put d v) (a.put d x) n ds:=by
 cases d with
 | none=>exact h
 | some d =>
  have hlt:=hd d rfl
  refine ⟨by simp [Act.put,h.size],fun t=>?_,h.defers⟩
  simp only [Env.put,Act.put]
  by_cases ht:t=d
  ·subst ht
   have:t < a.tmps.size:=by rw [h.size];exact hlt
   simp [Array.getD,this,hv]
  ·rw [if_neg ht]
   have:=h.rep t
   simp only [Array.getD_eq_getD_getElem?,Array.getElem?_setIfInBounds_ne (Ne.symm ht)] at this ⊢
   exact this
theorem EnvOk.eval {K:KW} {w:World} {env:Env} {a:Act} {n:Nat} {ds:List Deferred} (h:EnvOk K w env a n ds) (x:Operand):Rep K w (aeval env x) (a.eval x):=by
 obtain ⟨tmps,ds⟩:=a
 exact aeval_rep h.rep x
theorem wantedA_sound {K:KW} {w:World} {env:Env} {a:Act} {n:Nat} {ds:List Deferred} {ops:Array Oper} {o:Oper} {b:Bool} (hE:EnvOk K w env a n ds) (h:wantedA ops env o=some b):Region.wanted o (yielded ops a.tmps)=b:=by
 unfold wantedA at h
 unfold Region.wanted
 split at h
 ·rename_i hg;simp only [hg];simpa using h
 ·rename_i j want hg
  simp only [hg]
  split at h
  ·rename_i d hd
   split at h
   ·rename_i c hc
    have hr:=hE.rep d
    rw [hc] at hr
    have hr':a.tmps.getD d undef=.bool c:=hr
    have hy:yielded ops a.tmps j=some c:=by
     unfold yielded
     rw [hd]
     simp only [Option.bind_some]
     rw [Array.getD_eq_getD_getElem?] at hr'
     cases hz:a.tmps[d]? with
     | none=>rw [hz] at hr';simp [undef] at hr'
     | some z=>rw [hz] at hr';simp only [Option.getD_some] at hr';rw [hr']
    rw [hy]
    have hb:(c == want)=b:=by simpa using h
    rw [←hb]
    cases c <;> cases want <;> rfl
   ·rename_i cs hc
    have hr:=hE.rep d
    rw [hc] at hr
    obtain ⟨vs,hv,_⟩:=hr
    have hy:yielded ops a.tmps j=none:=by
     unfold yielded
     rw [hd]
     simp only [Option.bind_some]
     rw [Array.getD_eq_getD_getElem?] at hv
     cases hz:a.tmps[d]? with
     | none=>rfl
     | some z=>rw [hz] at hv;simp only [Option.getD_some] at hv;rw [hv]
    rw [hy]
    simpa using h
   ·cases h
  ·cases h
section
variable {P:Program} {K:KW} {w:World} {H:AHeap} {Kn:AV→AHeap→Prop}
theorem filter_push {B seen:List Nat} (hB:B.Nodup) {j:Nat} (hj:j < B.length):leftOf B (seen++[B.getD j 0])=(leftOf B seen).filter (· != j):=by
 unfold leftOf
 rw [List.filter_filter]
 apply List.filter_congr
 intro i hi
 have hi':i < B.length:=by simpa using hi
 rw [Bool.eq_iff_iff]
 simp only [List.contains_eq_mem,List.mem_append,List.mem_singleton,Bool.not_eq_eq_eq_not,Bool.not_true,decide_eq_false_iff_not,not_or,Bool.and_eq_true,bne_iff_ne,ne_eq]
 constructor
 ·rintro ⟨h1,h2⟩
  exact ⟨fun e=>h2 (by rw [e]),h1⟩
 ·rintro ⟨h1,h2⟩
  refine ⟨h2,fun e=>h1 ?_⟩
  have e1:B[i]=B[j]:=by
   simpa [List.getD,hi',hj] using e
  have hp:=List.pairwise_iff_getElem.1 hB
  rcases Nat.lt_trichotomy i j with hlt | heq | hlt
  ·exact absurd e1 (hp i j hi' hj hlt)
  ·exact heq
  ·exact absurd e1.symm (hp j i hj hi' hlt)
theorem RepEs.get {es:List (Value × AV)}:∀ {xs:List MapEntry},RepEs K w es xs→∀ {j:Nat} {e:Value × AV},es[j]?=some e→∃ y,xs[j]?=some y∧y.key=e.1∧Rep K w e.2 y.val:=by
 induction es with
 | nil=>intro xs _ j e h;simp at h
 | cons q es ih =>
  obtain ⟨k,a⟩:=q
  rintro xs ⟨y,ys,rfl,hk,hr,r⟩ j e h
  cases j with
  | zero=>simp only [List.getElem?_cons_zero,Option.some.injEq] at h;subst h;exact ⟨y,rfl,hk,hr⟩
  | succ j=>simp only [List.getElem?_cons_succ] at h ⊢;exact ih r h
theorem aNext_sound (hI:Inv K w H) {a:AV} {x:Value} {ty:TypeId} (ha:Rep K w a x) (h:aNext H Kn a):Gives P K w H Kn (do pure (.value (←Instr.next x false ty))):=by
 unfold aNext at h
 split at h
 rotate_left
 ·exact h.elim
 rename_i id
 obtain ⟨b,hb,rfl⟩:=ha
 split at h
 rotate_left
 ·exact h.elim
 rename_i m ver left _ hit
 split at h
 rotate_left
 ·exact h.elim
 rename_i es ver' hes
 obtain ⟨rfl,h0,h1⟩:=h
 obtain ⟨_,b1,bm,since,seen,B,p1,p2,p3,p4,p5,p6⟩:=hI.blk id _ hit
 obtain rfl:b=b1:=by rw [hb] at p1;simpa using p1
 obtain ⟨b2,en,ck,q1,q2,q3,q4,q5,q6,q7⟩:=blk_map hI hes
 obtain rfl:bm=b2:=by rw [p2] at q1;simpa using q1
 rw [q4] at p4
 simp only [Option.some.injEq,Prod.mk.injEq] at p4
 obtain ⟨hB,rfl⟩:=p4
 have hgi:(getObj b).run P w=.ok (.mapIter (some bm) ck seen ck) w:=by simp [getObj,Sem.run,p3]
 have hgm:=getObj_map (P:=P) q2
 have hlen:B.length=es.length:=by rw [←hB,List.length_map,q3.length]
 have hck:¬ ((!seen.isEmpty && !en.isEmpty && en.all (·.born ≥ ck))=true):=by
  intro hh
  simp only [Bool.and_eq_true,Bool.not_eq_true',Array.all_eq_true] at hh
  obtain ⟨⟨_,he⟩,hall⟩:=hh
  have hpos:0 < en.size:=by
   rcases Nat.eq_zero_or_pos en.size with h | h
   ·rw [Array.isEmpty_iff_size_eq_zero.2 h] at he;cases he
   ·exact h
  have e1:=hall 0 hpos
  have e2:=q6 en[0].born (List.mem_map.2 ⟨en[0],by simp,rfl⟩)
  simp only [ge_iff_le,decide_eq_true_eq] at e1
  omega
 have hnew:∀ l:Array MapEntry,(∀ e∈l.toList,e∈en.toList)→l.filter (fun e=>decide (e.born ≥ ck))=#[]∧l.filter (fun e=>decide (e.born < ck))=l:=by
  intro l hl
  have hlt:∀ e∈l,e.born < ck:=fun e he=>q6 _ (List.mem_map.2 ⟨e,hl e (by simpa using he),rfl⟩)
  constructor
  ·rw [Array.filter_eq_empty_iff]
   intro e he;have:=hlt e he;simp;omega
  ·rw [Array.filter_eq_self]
   intro e he;simpa using hlt e he
 have hold:=hnew (en.filter fun e=>!seen.contains e.born) (fun e he=>by simp at he ⊢;exact he.1)
 have hcand:∀ (e:MapEntry),e∈en.filter (fun e=>!seen.contains e.born)→∃ j,j∈left∧en.toList[j]?=some e:=by
  intro e he
  simp only [Array.mem_filter,Bool.not_eq_true',Array.contains_eq_mem,decide_eq_false_iff_not] at he
  obtain ⟨he1,he2⟩:=he
  obtain ⟨j,hj,rfl⟩:=List.getElem_of_mem (show e∈en.toList by simpa using he1)
  refine ⟨j,?_,by simp at hj ⊢⟩
  rw [p5]
  simp only [leftOf,List.mem_filter,List.mem_range]
  have hj':j < B.length:=by rw [←hB];simpa using hj
  refine ⟨hj',?_⟩
  have:B.getD j 0=en.toList[j].born:=by
   have hj2:j < en.size:=by simpa using hj
   rw [←hB]
   simp [List.getD,hj2]
  rw [this]
  simp only [Array.getElem_toList] at he2 ⊢
  simpa using he2
 have hcompl:∀ j∈left,∃ e,e∈en.filter (fun e=>!seen.contains e.born):=by
  intro j hj
  rw [p5] at hj
  simp only [leftOf,List.mem_filter,List.mem_range] at hj
  have hj':j < en.size:=by rw [←hB] at hj;simpa using hj.1
  refine ⟨en[j],?_⟩
  simp only [Array.mem_filter,Array.getElem_mem,true_and]
  have:B.getD j 0=en[j].born:=by
   rw [←hB];simp [List.getD,hj']
  rw [this] at hj
  simpa using hj.2
 have hL:∀ (L:Array MapEntry),L=en.filter (fun e=>!seen.contains e.born)→(Instr.next (.pointer (some ⟨b,0,none⟩)) false ty).run P w =
   ((
    choose (.mapNext ((if L.isEmpty then #[none] else #[])++L.map some).size)).run P w).andThen fun i w1 =>
    (match ((if L.isEmpty then #[none] else #[])++L.map some)[i]? with
     | some (some e)=>(do setObj b (.mapIter (some bm) ck (seen.push e.born) ck);pure (.tuple #[.bool true,e.key,e.val]):Sem Value)
     | some none=>pure (.tuple #[.bool false])
     | none => stuck "Next: no such candidate").run P w1 := by
  intro L hL
  rw [←hL] at hold
  unfold Instr.next
  simp only [Sem.run_bind,hgi,Result.andThen_ok,hgm,hck,if_false,Bool.false_eq_true,←hL,hold.1,hold.2,Array.append_empty,Sem.run_pure]
  rfl
 have hLL:=hL _ rfl
 generalize hLe:(en.filter fun e=>!seen.contains e.born)=L at hLL hcand hcompl
 by_cases hl:left=[]
 ·have hE:L=#[]:=by
   cases hz:L.toList with
   | nil=>exact Array.toList_eq_nil_iff.1 hz
   | cons e l =>
    obtain ⟨j,hj,_⟩:=hcand e (by
                    have:e∈L.toList:=by rw [hz];simp
                    simpa using this)
    rw [hl] at hj;cases hj
  subst hE
  have hrun:(Instr.next (.pointer (some ⟨b,0,none⟩)) false ty).run P w=.ok (.tuple #[.bool false]) w:=by
   rw [hLL];simp [Question.forced]
  exact Gives.pure hI hrun (v:=.tuple [.v (.bool false)]) ⟨_,rfl,_,[],rfl,rfl,rfl⟩ (h0 hl)
 ·obtain ⟨j0,hj0⟩:=List.exists_mem_of_ne_nil _ hl
  obtain ⟨e0,he0⟩:=hcompl j0 hj0
  have hne:L.isEmpty=false:=by
   cases hz:L.isEmpty with
   | false=>rfl
   | true=>rw [Array.isEmpty_iff.1 hz] at he0;simp at he0
  have hpos:0 < L.size:=by
   rcases Nat.eq_zero_or_pos L.size with h | h
   ·rw [Array.isEmpty_iff_size_eq_zero.2 h] at hne;cases hne
   ·exact h
  rw [hne] at hLL
  simp only [Bool.false_eq_true,if_false,Array.empty_append,Array.size_map] at hLL
  obtain ⟨i,w1,hi,hw1,hch⟩:∃ i w1,i < L.size∧SameMem w w1∧(choose (.mapNext L.size)).run P w=.ok i w1:=by
   rw [run_choose]
   by_cases hf:(Question.mapNext L.size).forced=true
   ·exact ⟨0,w,hpos,.refl w,by rw [if_pos hf]⟩
   ·exact ⟨_,_,Nat.mod_lt _ hpos,SameMem.drew w,by rw [if_neg hf];rfl⟩
  rw [hch,Result.andThen_ok] at hLL
  have hget:(L.map some)[i]?=some (some L[i]):=by simp [hi]
  rw [hget] at hLL
  obtain ⟨j,hj,hjen⟩:=hcand L[i] (by simp)
  have hjlt:j < B.length:=by
   rw [p5] at hj;simp only [leftOf,List.mem_filter,List.mem_range] at hj;exact hj.1
  have hborn:L[i].born=B.getD j 0:=by
   have hjlt':j < en.size:=by rw [←hB] at hjlt;simpa using hjlt
   have e1:en.toList[j]=L[i]:=by
    rw [List.getElem?_eq_getElem (by simpa using hjlt')] at hjen;simpa using hjen
   rw [←hB,←e1]
   simp [List.getD,hjlt']
  obtain ⟨e, he⟩ : ∃ e, es[j]? = some e := ⟨es[j]'(by omega), by simp⟩
  obtain ⟨y,hy,hyk,hyv⟩:=q3.get he
  obtain rfl:y=L[i]:=by rw [hjen] at hy;simpa using hy.symm
  have p3':w1.heap[b]?=some (.mapIter (some bm) ck seen ck):=by rw [hw1.heap];exact p3
  have hset:(setObj b (.mapIter (some bm) ck (seen.push L[i].born) ck)).run P w1=.ok () { w1 with heap:=w1.heap.setIfInBounds b (.mapIter (some bm) ck (seen.push L[i].born) ck) }:=by
   simp [setObj,Sem.run,p3']
  have hI1:=hI.same hw1
  have hc:=chg_obj (o':=.mapIter (some bm) ck (seen.push L[i].born) ck) p3'
  have hset':=chg_settled hI1 hb hc
  have hE:=Ext.write hI1 hb hit p3' hc (by simp only [World.shape?,p3',hc.at_]) (by simp) (by simp) (B:=.iter m ver' (left.filter (· != j)) (some j))
   ⟨b,bm,ck,seen.push L[i].born,B,hb,p2,hc.at_,by rw [q4,hB],by
    rw [Array.toList_push,hborn,p5,filter_push (by rw [←hB];exact q5) hjlt],fun j' hj'=>by
    obtain rfl:j=j':=by simpa using hj'
    exact ⟨L[i].born,by simp,by rw [hborn];simp [List.getD,hjlt]⟩⟩
  refine ⟨.tuple #[.bool true,L[i].key,L[i].val],.tuple [.v (.bool true),.v e.1,e.2],_,K,_,.inl ?_,(Ext.same hw1 hI).trans hE,⟨_,rfl,_,_,rfl,rfl,_,_,rfl,hyk,_,[],rfl,?_,rfl⟩,h1 j hj e he⟩
  ·simp only [Sem.run_bind,hLL,hset,Result.andThen_ok,Sem.run_pure]
  ·exact (hyv.mono (.refl K) (hw1.step K).settled).mono (.refl K) hset'
theorem step_sound {ro:Option Nat} (hI:Inv K w H) {md:Nat→Mode} {env:Env} {o:Oper} {a:Act} {n:Nat} {ds:List Deferred} (hE:EnvOk K w env a n ds) (h:aStep P md env H Kn o) {next:Act→World→Prop} {Q:Exit→Act→World→Prop}
  (hn:∀ x v K' w' H',Ext K w H K' w' H'→Rep K' w' v x→Kn v H'→next (a.put o.dst x) w'):o.wpIn (fenceR ro) 0 P a w next Q:=by
 have gives:(∀ c,o.op≠.defer c)→Gives P K w H Kn (execOp a.eval o)→o.wpIn (fenceR ro) 0 P a w next Q:=by
  rintro hnd ⟨x,v,w',K',H',hr | ⟨hr,rfl⟩,h1,h2,h3⟩
  ·refine ⟨fun _ _=>trivial,?_⟩;rw [Oper.semAt_eq _ _ _ hnd,hr,Oper.uponIn_value];exact hn _ _ _ _ _ h1 h2 h3
  ·refine ⟨fun _ _=>trivial,?_⟩;rw [Oper.semAt_eq _ _ _ hnd,hr,Oper.uponIn_skip];exact hn _ _ _ _ _ h1 h2 h3
 obtain ⟨dst,op,ty,pos,after,guard⟩:=o
 unfold aStep at h
 simp only at h
 split at h
 ·rename_i f args tys
  have hf:=hE.eval f
  split at h
  ·rename_i g caps hg
   rw [hg] at hf
   obtain ⟨cs,hv,hr⟩:=hf
   obtain ⟨⟨fn,hfn,hname,hbody⟩,h⟩:=h
   have hrun:(execOp a.eval ⟨dst,.call ⟨.value f,args,tys⟩,ty,pos,after,guard⟩).run P w=.ok (.enter g (args.map a.eval++cs)) w:=by
    have hb:fn.body≠none:=by cases hz:fn.body <;> simp_all
    simp [execOp,resolve,hv,Deferred.ofValue,invoke,callFunc,Sem.run_bind,hfn,hb,hname]
   refine ⟨fun _ _=>trivial,?_⟩
   rw [Oper.semAt_eq _ _ _ (by simp),hrun,Oper.uponIn_enter]
   refine ⟨fun hd=>by simp [Fence.wide] at hd,?_⟩
   have hc:=h K w (args.map a.eval++cs) hI (by
    rw [Array.toList_append,Array.toList_map]
    exact (RepL.map fun x _=>hE.eval x).append hr)
   refine CallsIn.mono (F:=fenceR ro) (n:=0 - 1) (show CallsIn (fenceR ro) (0 - 1) P g (args.map a.eval++cs) w _ from (callsIn_wide (n:=0 - 1)).2 hc) ?_
   rintro e w' ⟨K',v,x,H',rfl,h1,h2,h3⟩
   exact hn _ _ _ _ _ h1 h2 h3
  ·rename_i i hg
   rw [hg] at hf
   obtain ⟨b,hb,hv⟩:=hf
   obtain ⟨fn,tmps,assign,body,hy,hR⟩:=h K w (args.map a.eval) b hb hI (by
    rw [Array.toList_map]
    exact RepL.map fun x _=>hE.eval x)
   have hrun:(execOp a.eval ⟨dst,.call ⟨.value f,args,tys⟩,ty,pos,after,guard⟩).run P w=.ok (.round b fn tmps assign body) w:=by
    rw [←hy]
    simp [execOp,resolve,hv,Deferred.ofValue,invoke,callFunc,Sem.run_bind]
   refine ⟨fun _ _=>trivial,?_⟩
   rw [Oper.semAt_eq _ _ _ (by simp),hrun,Oper.uponIn_round]
   refine ⟨fun hd=>by simp [Fence.wide] at hd,?_⟩
   refine RoundIn.mono (F:=fenceR ro) (n:=0 - 1) (show RoundIn (fenceR ro) (0 - 1) P b fn tmps assign body w _ from hR) ?_
   rintro e w' ⟨K',v,x,H',rfl,h1,h2,h3⟩
   exact hn _ _ _ _ _ h1 h2 h3
  ·exact h.elim
 ·exact gives (by simp) (aNext_sound hI (hE.eval _) h)
 ·exact gives (by rintro c rfl;simp [aop] at h) (aop_sound hI hE.eval h).tok
theorem aOps_sound {ro:Option Nat} {md:Nat→Mode} {n:Nat} {ds:List Deferred} {ops:Array Oper} {Q:Env→AHeap→Prop} {Qc:Exit→Act→World→Prop} (hd:∀ o∈ops.toList,∀ t,o.dst=some t→t < n)
  {K0:KW} {w0:World} {H0:AHeap} (hQ:∀ K w H env a,Ext K0 w0 H0 K w H→EnvOk K w env a n ds→Q env H→Qc .normal a w) :
  ∀ (l:List Oper) (k:Nat) (K:KW) (w:World) (H:AHeap) (env:Env) (a:Act),(∀ j,l[j]?=ops[k+j]?)→Ext K0 w0 H0 K w H→EnvOk K w env a n ds→aOps P md ops Q l env H →
   wpOpsIn (fenceR ro) 0 P ops Qc (List.range' k l.length) a w
 | [],k,K,w,H,env,a,_,hX,hE,h=>by simpa [wpOpsIn] using hQ K w H env a hX hE h
 | o::l,k,K,w,H,env,a,hl,hX,hE,h=>by
  have h0:ops[k]?=some o:=by simpa using (hl 0).symm
  have hlt:∀ t,o.dst=some t→t < n:=hd o (by
   have:k < ops.size:=by
    rcases Nat.lt_or_ge k ops.size with h' | h'
    ·exact h'
    ·simp [Array.getElem?_eq_none h'] at h0
   rw [Array.getElem?_eq_getElem this] at h0
   simp only [Option.some.injEq] at h0
   rw [←h0];simp)
  have hrec:=fun K w H env a hX hE h=>aOps_sound (ro:=ro) (md:=md) hd hQ l (k+1) K w H env a (fun j=>by have:=hl (j+1);simpa [Nat.add_assoc,Nat.add_comm 1 j] using this) hX hE h
  rw [List.length_cons,List.range'_succ,wpOpsIn]
  simp only [h0]
  simp only [aOps] at h
  split at h
  ·rename_i hw
   rw [wantedA_sound hE hw,if_pos rfl]
   refine step_sound hX.inv hE h fun x v K' w' H' h1 h2 h3=>?_
   exact hrec K' w' H' _ _ (hX.trans h1) ((hE.step h1.step).put hlt h2) h3
  ·rename_i hw
   rw [wantedA_sound hE hw]
   simp only [Bool.false_eq_true,if_false]
   exact ⟨fun _ _=>trivial,hrec K w H _ _ hX (hE.put (v:=.tuple []) hlt ⟨#[],rfl,rfl⟩) h⟩
  ·exact h.elim
end
end Go.Abs
namespace Go.Abs
open Go
def Det (P:Program) (md:Nat→Mode) (o:Oper) (env:Env) (H:AHeap) (v:AV) (H1:AHeap):Prop:=aStep P md env H (fun v' H'=>v'=v∧H'=H1) o
def isCall:Op→Bool
 | .call ⟨.value _,_,_⟩=>true
 | _=>false
def isNext:Op→Bool
 | .next _ _=>true
 | _=>false
section
variable {P:Program} {md:Nat→Mode} {env env':Env} {H:AHeap} {Kn:AV→AHeap→Prop}
theorem aStep_congr {o:Oper} (h:∀ x∈o.op.operands,aeval env x=aeval env' x) (hs:aStep P md env H Kn o):aStep P md env' H Kn o:=by
 obtain ⟨dst,op,ty,pos,after,guard⟩:=o
 have pairs:∀ ps:Array (Nat × Operand),(∀ x∈(ps.toList.map (·.2)).toArray,aeval env x=aeval env' x)→(ps.toList.map fun p=>(p.1,aeval env p.2))=ps.toList.map fun p=>(p.1,aeval env' p.2):=fun ps hp =>
  List.map_congr_left fun p hm=>by rw [hp p.2 (by simp;exact ⟨p.1,by simpa using hm⟩)]
 have opts:∀ x:Option Operand,(∀ y∈x.toArray,aeval env y=aeval env' y)→x.map (aeval env)=x.map (aeval env'):=fun x hx=>by
  cases x with
  | none=>rfl
  | some x=>simp [hx x (by simp)]
 have arr:∀ xs:Array Operand,(∀ y∈xs,aeval env y=aeval env' y)→xs.toList.map (aeval env)=xs.toList.map (aeval env'):=fun xs hx=>List.map_congr_left fun y hy=>hx y (by simpa using hy)
 cases op <;> simp only [Op.operands] at h
 case call c =>
  obtain ⟨callee,args,tys⟩:=c
  cases callee with
  | value f =>
   have hf:=h f (by simp [Call.operands])
   have ha:=arr args (fun y hy=>h y (by simp [Call.operands,hy]))
   simp only [aStep,hf,ha] at hs ⊢
   exact hs
  | invoke r m=>simp only [aStep,aop] at hs ⊢
  | builtin b =>
   have ha:∀ x∈args,aeval env x=aeval env' x:=fun y hy=>h y (by simp [Call.operands,hy])
   cases b <;> simp only [aStep,aop] at hs ⊢
   case append =>
    split at hs
    ·rename_i s x t u h1 h2
     rw [←ha s (by rw [←Array.mem_toList_iff,h1];simp),←ha x (by rw [←Array.mem_toList_iff,h1];simp)]
     exact hs
    ·exact hs.elim
   case len =>
    split at hs
    ·rename_i x t h1 h2
     rw [←ha x (by rw [←Array.mem_toList_iff,h1];simp)]
     exact hs
    ·exact hs.elim
   case copy =>
    split at hs
    ·rename_i x y t u h1 h2
     rw [←ha x (by rw [←Array.mem_toList_iff,h1];simp),←ha y (by rw [←Array.mem_toList_iff,h1];simp)]
     exact hs
    ·exact hs.elim
   case min =>
    split at hs
    ·rename_i x y h1
     rw [←ha x (by rw [←Array.mem_toList_iff,h1];simp),←ha y (by rw [←Array.mem_toList_iff,h1];simp)]
     exact hs
    ·exact hs.elim
   case max =>
    split at hs
    ·rename_i x y h1
     rw [←ha x (by rw [←Array.mem_toList_iff,h1];simp),←ha y (by rw [←Array.mem_toList_iff,h1];simp)]
     exact hs
    ·exact hs.elim
   case delete =>
    split at hs
    ·rename_i m k more t ts h1 h2
     rw [←ha m (by rw [←Array.mem_toList_iff,h1];simp),←ha k (by rw [←Array.mem_toList_iff,h1];simp)]
     exact hs
    ·exact hs.elim
 case build t ps=>simp only [aStep,aop,pairs ps h] at hs ⊢;exact hs
 case buildSlice t n ps=>simp only [aStep,aop,pairs ps h] at hs ⊢;exact hs
 case makeFunc fn first caps =>
  cases fn <;> simp only [aStep,aop] at hs ⊢
  rw [←arr caps (fun y hy=>h y (by simp [hy]))]
  exact hs
 case makeMap t r=>cases r <;> simp only [aStep,aop] at hs ⊢ <;> exact hs
 case slice t x lo hi mx =>
  have h1:=h x (by simp)
  have h2:=opts lo (fun y hy=>h y (by simp at hy ⊢;simp [hy]))
  have h3:=opts hi (fun y hy=>h y (by simp at hy ⊢;simp [hy]))
  have h4:=opts mx (fun y hy=>h y (by simp at hy ⊢;simp [hy]))
  simp only [aStep,aop,h1,h2,h3,h4] at hs ⊢
  exact hs
 case next it s =>
  have h1:=h it (by simp)
  cases s <;> simp only [aStep,aop,h1] at hs ⊢ <;> exact hs
 all_goals first
  | exact hs
  | (
   have h1:=h _ (List.mem_toArray.2 (List.mem_cons_self ..))
   simp only [aStep,aop,h1] at hs ⊢;exact hs)
  | (
   have h1:=h _ (List.mem_toArray.2 (List.mem_cons_self ..))
   have h2:=h _ (List.mem_toArray.2 (List.mem_cons_of_mem _ (List.mem_cons_self ..)))
   simp only [aStep,aop,h1,h2] at hs ⊢;exact hs)
  | (
   have h1:=h _ (List.mem_toArray.2 (List.mem_cons_self ..))
   have h2:=h _ (List.mem_toArray.2 (List.mem_cons_of_mem _ (List.mem_cons_self ..)))
   have h3:=h _ (List.mem_toArray.2 (List.mem_cons_of_mem _ (List.mem_cons_of_mem _ (List.mem_cons_self ..))))
   simp only [aStep,aop,h1,h2,h3] at hs ⊢;exact hs)
theorem ret_det {r:Option AV} (h:ret H Kn r):∃ v,Kn v H∧∀ Kn':AV→AHeap→Prop,Kn' v H→ret H Kn' r:=by
 cases r with
 | none=>exact h.elim
 | some a=>exact ⟨a,h,fun _ h=>h⟩
theorem aop_det {o:Oper} (h:aop P md env H Kn o):∃ v H1,Kn v H1∧∀ Kn':AV→AHeap→Prop,Kn' v H1→aop P md env H Kn' o:=by
 obtain ⟨dst,op,ty,pos,after,guard⟩:=o
 cases op <;> simp only [aop] at h ⊢ <;> try (exact h.elim)
 case move=>exact ⟨_,_,h,fun _ h'=>h'⟩
 case assign=>exact ⟨_,_,h,fun _ h'=>h'⟩
 case pick=>split at h <;> first | exact ⟨_,_,h,fun _ h'=>h'⟩ | exact h.elim
 case alloc t =>
  unfold aAlloc at h ⊢
  split at h
  ·exact h.elim
  ·split at h
   ·split at h
    ·exact ⟨_,_,h,fun _ h'=>h'⟩
    ·exact h.elim
   ·split at h
    ·exact ⟨_,_,h,fun _ h'=>h'⟩
    ·exact h.elim
   ·obtain ⟨id,hid,h⟩:=h
    exact ⟨_,_,h,fun _ h'=>⟨id,hid,h'⟩⟩
   ·exact ⟨_,_,h,fun _ h'=>h'⟩
 case box=>split at h <;> first | exact ⟨_,_,h,fun _ h'=>h'⟩ | exact h.elim
 case build t parts =>
  unfold aBuild at h ⊢
  split at h
  ·obtain ⟨v,h2,h1⟩:=ret_det h;exact ⟨v,H,h2,fun Kn' h'=>h1 Kn' h'⟩
  ·exact h.elim
 case buildSlice t n parts =>
  unfold aBuildSlice at h ⊢
  split at h
  ·obtain ⟨a,b,h⟩:=h
   split at h
   ·split at h
    ·rename_i hc;exact ⟨_,_,h,fun _ h'=>⟨a,b,by rw [if_pos hc];exact h'⟩⟩
    ·rename_i hc
     split at h
     ·rename_i hc2;exact ⟨_,_,h,fun _ h'=>⟨a,b,by rw [if_neg hc,if_pos hc2];exact h'⟩⟩
     ·rename_i hc2
      split at h
      ·rename_i hc3;exact ⟨_,_,h,fun _ h'=>⟨a,b,by rw [if_neg hc,if_neg hc2,if_pos hc3];exact h'⟩⟩
      ·rename_i hc3;exact ⟨_,_,h,fun _ h'=>⟨a,b,by rw [if_neg hc,if_neg hc2,if_neg hc3];exact h'⟩⟩
   ·exact h.elim
  ·exact h.elim
 case load t a =>
  unfold aLoad at h ⊢
  split at h
  ·exact h.elim
  ·split at h
   ·split at h
    ·obtain ⟨v,h2,h1⟩:=ret_det h;exact ⟨v,H,h2,fun Kn' h'=>h1 Kn' h'⟩
    ·exact h.elim
   ·obtain ⟨v,h2,h1⟩:=ret_det h;exact ⟨v,H,h2,fun Kn' h'=>h1 Kn' h'⟩
   ·split at h
    ·obtain ⟨b1,b2,b3,h⟩:=h
     split at h
     ·obtain ⟨v,h2,h1⟩:=ret_det h;exact ⟨v,H,h2,fun Kn' h'=>⟨b1,b2,b3,h1 Kn' h'⟩⟩
     ·exact h.elim
    ·exact h.elim
   ·exact h.elim
 case store t a x =>
  unfold aStore at h ⊢
  split at h
  ·exact h.elim
  ·obtain ⟨a1,h⟩:=h
   split at h
   ·split at h
    ·exact ⟨_,_,h.2,fun _ h'=>⟨a1,h.1,h'⟩⟩
    ·exact h.elim
   ·split at h
    ·obtain ⟨b1,b2,b3,h⟩:=h
     split at h
     ·exact ⟨_,_,h.2,fun _ h'=>⟨a1,b1,b2,b3,h.1,h'⟩⟩
     ·exact h.elim
    ·exact h.elim
   ·exact h.elim
 case nilCheck=>split at h <;> first | exact ⟨_,_,h,fun _ h'=>h'⟩ | exact h.elim
 case binOp op t x y yt =>
  unfold aBin at h ⊢
  split at h
  ·obtain ⟨v,h2,h1⟩:=ret_det h.2;exact ⟨v,H,h2,fun Kn' h'=>⟨h.1,h1 Kn' h'⟩⟩
  ·split at h
   ·exact ⟨_,_,h.2,fun _ h'=>⟨h.1,h'⟩⟩
   ·obtain ⟨v,h2,h1⟩:=ret_det h;exact ⟨v,H,h2,fun Kn' h'=>h1 Kn' h'⟩
  ·split at h <;> first | exact ⟨_,_,h,fun _ h'=>h'⟩ | exact h.elim
  ·split at h <;> first | exact ⟨_,_,h,fun _ h'=>h'⟩ | exact h.elim
  ·split at h <;> first | exact ⟨_,_,h,fun _ h'=>h'⟩ | exact h.elim
  ·split at h <;> first | exact ⟨_,_,h,fun _ h'=>h'⟩ | exact h.elim
  ·split at h <;> first | exact ⟨_,_,h,fun _ h'=>h'⟩ | exact h.elim
  ·exact h.elim
 case unOp op t x =>
  unfold aUn at h ⊢
  split at h <;> first | exact ⟨_,_,h,fun _ h'=>h'⟩ | exact h.elim
 case convert a b x =>
  unfold aConv at h ⊢
  split at h
  ·obtain ⟨a1,h⟩:=h
   split at h
   ·exact ⟨_,_,h,fun _ h'=>⟨a1,h'⟩⟩
   ·exact h.elim
  ·exact ⟨_,_,h,fun _ h'=>h'⟩
  ·exact ⟨_,_,h,fun _ h'=>h'⟩
  ·exact ⟨_,_,h,fun _ h'=>h'⟩
  ·exact h.elim
 case makeFunc fn first caps =>
  cases fn <;> simp only [aop] at h ⊢ <;> try (exact h.elim)
  exact ⟨_,_,h.2,fun _ h'=>⟨h.1,h'⟩⟩
 case makeMap t r =>
  cases r <;> simp only [aop] at h ⊢ <;> try (exact h.elim)
  exact ⟨_,_,h,fun _ h'=>h'⟩
 case makeSlice t l c =>
  unfold aMakeSlice at h ⊢
  split at h
  ·obtain ⟨a1,a2,a3,a4,h⟩:=h
   split at h
   ·rename_i hc;exact ⟨_,_,h,fun _ h'=>⟨a1,a2,a3,a4,by rw [if_pos hc];exact h'⟩⟩
   ·rename_i hc
    split at h
    ·rename_i hl
     obtain ⟨id,hid,h⟩:=h
     exact ⟨_,_,h,fun _ h'=>⟨a1,a2,a3,a4,by rw [if_neg hc,if_pos hl];exact ⟨id,hid,h'⟩⟩⟩
    ·rename_i hl
     split at h
     ·rename_i ho
      exact ⟨_,_,h.2,fun _ h'=>⟨a1,a2,a3,a4,by rw [if_neg hc,if_neg hl,if_pos ho];exact ⟨h.1,h'⟩⟩⟩
     ·exact h.elim
  ·exact h.elim
 case slice t x lo hi mx =>
  by_cases hcut:isCut md dst=true
  ·rw [if_pos hcut] at h
   simp only [if_pos hcut]
   unfold aCut at h ⊢
   split at h
   ·split at h
    ·obtain ⟨a1,a2,a3,a4,a5,a6,h⟩:=h
     exact ⟨_,_,h,fun _ h'=>⟨a1,a2,a3,a4,a5,a6,h'⟩⟩
    ·exact h.elim
   ·exact h.elim
  rw [if_neg hcut] at h
  simp only [if_neg hcut]
  unfold aSlice at h ⊢
  split at h
  ·exact h.elim
  ·split at h
   ·obtain ⟨a1,h⟩:=h
    split at h
    ·obtain ⟨a2,a3,a4,h⟩:=h
     exact ⟨_,_,h,fun _ h'=>⟨a1,a2,a3,a4,h'⟩⟩
    ·exact h.elim
   ·obtain ⟨a1,h⟩:=h
    split at h
    ·obtain ⟨a2,a3,a4,a5,h⟩:=h
     exact ⟨_,_,h,fun _ h'=>⟨a1,a2,a3,a4,a5,h'⟩⟩
    ·exact h.elim
   ·split at h
    ·obtain ⟨a2,a3,a4,a5,h⟩:=h
     exact ⟨_,_,h,fun _ h'=>⟨a2,a3,a4,a5,h'⟩⟩
    ·exact h.elim
   ·obtain ⟨a1,h⟩:=h
    split at h
    ·obtain ⟨a2,a3,a4,h⟩:=h
     exact ⟨_,_,h,fun _ h'=>⟨a1,a2,a3,a4,h'⟩⟩
    ·exact h.elim
   ·obtain ⟨a1,h⟩:=h
    split at h
    ·obtain ⟨a2,a3,a4,h⟩:=h
     exact ⟨_,_,h,fun _ h'=>⟨a1,a2,a3,a4,h'⟩⟩
    ·exact h.elim
   ·split at h
    ·exact ⟨_,_,h.2,fun _ h'=>⟨h.1,h'⟩⟩
    ·exact h.elim
   ·exact h.elim
 case fieldAddr s x f =>
  unfold aFieldAddr at h ⊢
  split at h
  ·exact h.elim
  ·split at h
   ·exact ⟨_,_,h,fun _ h'=>h'⟩
   ·exact ⟨_,_,h.2,fun _ h'=>⟨h.1,h'⟩⟩
   ·exact ⟨_,_,h,fun _ h'=>h'⟩
   ·exact h.elim
 case field s x f =>
  unfold aField at h ⊢
  split at h
  ·obtain ⟨v,h2,h1⟩:=ret_det h;exact ⟨v,H,h2,fun Kn' h'=>h1 Kn' h'⟩
  ·exact h.elim
 case indexAddr t x i =>
  unfold aIndexAddr at h ⊢
  split at h
  ·obtain ⟨a1,h⟩:=h
   split at h
   ·exact ⟨_,_,h.2,fun _ h'=>⟨a1,h.1,h'⟩⟩
   ·exact h.elim
  ·obtain ⟨a1,a2,h⟩:=h
   exact ⟨_,_,h,fun _ h'=>⟨a1,a2,h'⟩⟩
  ·obtain ⟨a1,a2,h⟩:=h
   exact ⟨_,_,h,fun _ h'=>⟨a1,a2,h'⟩⟩
  ·obtain ⟨a1,a2,h⟩:=h
   exact ⟨_,_,h,fun _ h'=>⟨a1,a2,h'⟩⟩
  ·split at h
   ·obtain ⟨a1,a2,h⟩:=h
    exact ⟨_,_,h,fun _ h'=>⟨a1,a2,h'⟩⟩
   ·exact h.elim
  ·exact h.elim
 case index t x i =>
  unfold aIndex at h ⊢
  split at h
  ·obtain ⟨a1,h⟩:=h
   split at h
   ·exact ⟨_,_,h,fun _ h'=>⟨a1,h'⟩⟩
   ·exact h.elim
  ·exact h.elim
 case lookup t m k ok =>
  unfold aLookup at h ⊢
  split at h
  ·obtain ⟨a1,h⟩:=h
   split at h
   ·split at h
    ·obtain ⟨a2,h⟩:=h
     split at h
     ·exact ⟨_,_,h,fun _ h'=>⟨a1,a2,h'⟩⟩
     ·exact ⟨_,_,h,fun _ h'=>⟨a1,a2,h'⟩⟩
    ·exact h.elim
   ·exact ⟨_,_,h,fun _ h'=>⟨a1,h'⟩⟩
   ·exact h.elim
  ·exact h.elim
 case mapUpdate t m k x =>
  unfold aMapUpdate at h ⊢
  split at h
  ·obtain ⟨a1,h⟩:=h
   split at h
   ·exact ⟨_,_,h.2,fun _ h'=>⟨a1,h.1,h'⟩⟩
   ·exact h.elim
  ·unfold aMapNew at h ⊢
   split at h
   ·obtain ⟨a1,a2,h⟩:=h
    split at h
    ·exact ⟨_,_,h.2,fun _ h'=>⟨a1,a2,h.1,h'⟩⟩
    ·exact h.elim
   ·exact h.elim
  ·exact h.elim
 case insert t m k x =>
  unfold aMapUpdate at h ⊢
  split at h
  ·obtain ⟨a1,h⟩:=h
   split at h
   ·exact ⟨_,_,h.2,fun _ h'=>⟨a1,h.1,h'⟩⟩
   ·exact h.elim
  ·unfold aMapNew at h ⊢
   split at h
   ·obtain ⟨a1,a2,h⟩:=h
    split at h
    ·exact ⟨_,_,h.2,fun _ h'=>⟨a1,a2,h.1,h'⟩⟩
    ·exact h.elim
   ·exact h.elim
  ·exact h.elim
 case mapEntry t m k =>
  unfold aMapEntry at h ⊢
  split at h
  ·obtain ⟨a1,h⟩:=h
   split at h
   ·obtain ⟨a2,h⟩:=h
    split at h
    ·exact h.elim
    ·exact ⟨_,_,h,fun _ h'=>⟨a1,a2,h'⟩⟩
   ·exact h.elim
  ·exact h.elim
 case entryStore t m s x =>
  unfold aEntryStore at h ⊢
  split at h
  ·obtain ⟨a1,h⟩:=h
   split at h
   ·obtain ⟨a2,h⟩:=h
    split at h
    ·exact ⟨_,_,h,fun _ h'=>⟨a1,a2,h'⟩⟩
    ·exact h.elim
   ·exact h.elim
  ·exact h.elim
 case range t m =>
  split at h
  ·obtain ⟨a1,h⟩:=h
   split at h
   ·exact ⟨_,_,h,fun _ h'=>⟨a1,h'⟩⟩
   ·exact h.elim
  ·exact h.elim
 case entry it =>
  unfold aEntry at h ⊢
  split at h
  ·split at h
   ·split at h
    ·obtain ⟨a1,h⟩:=h
     split at h
     ·exact ⟨_,_,h,fun _ h'=>⟨a1,h'⟩⟩
     ·exact h.elim
    ·exact h.elim
   ·exact h.elim
  ·exact h.elim
 case extract t n =>
  split at h
  ·obtain ⟨v,h2,h1⟩:=ret_det h;exact ⟨v,H,h2,fun Kn' h'=>h1 Kn' h'⟩
  ·exact h.elim
 case call c =>
  obtain ⟨callee,args,tys⟩:=c
  cases callee with
  | value f=>simp only [aop] at h
  | invoke r m=>simp only [aop] at h
  | builtin b =>
   cases b <;> simp only [aop] at h ⊢
   case len =>
    split at h
    ·unfold aLen at h ⊢
     split at h
     ·exact ⟨_,_,h.2,fun _ h'=>⟨h.1,h'⟩⟩
     ·exact ⟨_,_,h.2,fun _ h'=>⟨h.1,h'⟩⟩
     ·exact ⟨_,_,h.2,fun _ h'=>⟨h.1,h'⟩⟩
     ·exact ⟨_,_,h.2,fun _ h'=>⟨h.1,h'⟩⟩
     ·exact ⟨_,_,h.2,fun _ h'=>⟨h.1,h'⟩⟩
     ·exact ⟨_,_,h.2,fun _ h'=>⟨h.1,h'⟩⟩
     ·obtain ⟨a1,h⟩:=h
      split at h
      ·exact ⟨_,_,h,fun _ h'=>⟨a1,h'⟩⟩
      ·exact h.elim
     ·exact h.elim
    ·exact h.elim
   case append =>
    split at h
    ·by_cases hown:isOwn md dst=true
     ·rw [if_pos hown] at h
      simp only [if_pos hown]
      unfold aAppendOwn at h ⊢
      obtain ⟨a0,h⟩:=h
      split at h
      ·obtain ⟨a1,a2,a3,h⟩:=h
       exact ⟨_,_,h,fun _ h'=>⟨a0,a1,a2,a3,h'⟩⟩
      ·exact h.elim
     rw [if_neg hown] at h
     simp only [if_neg hown]
     unfold aAppend at h ⊢
     obtain ⟨a0,h⟩:=h
     split at h
     ·obtain ⟨a1,h⟩:=h
      split at h
      ·obtain ⟨a2,h⟩:=h
       split at h
       ·rename_i hc;exact ⟨_,_,h,fun _ h'=>⟨a0,a1,a2,by rw [if_pos hc];exact h'⟩⟩
       ·rename_i hc;exact ⟨_,_,h,fun _ h'=>⟨a0,a1,a2,by rw [if_neg hc];exact h'⟩⟩
      ·obtain ⟨a2,h⟩:=h
       split at h
       ·obtain ⟨a3,a4,a5,h⟩:=h
        split at h
        ·rename_i hc;exact ⟨_,_,h,fun _ h'=>⟨a0,a1,a2,a3,a4,a5,by rw [if_pos hc];exact h'⟩⟩
        ·rename_i hc;exact ⟨_,_,h,fun _ h'=>⟨a0,a1,a2,a3,a4,a5,by rw [if_neg hc];exact h'⟩⟩
       ·exact h.elim
      ·obtain ⟨a2,h⟩:=h
       split at h
       ·obtain ⟨a3,a4,a5,a6,h⟩:=h
        split at h
        ·rename_i hc;exact ⟨_,_,h,fun _ h'=>⟨a0,a1,a2,a3,a4,a5,a6,by rw [if_pos hc];exact h'⟩⟩
        ·rename_i hc;exact ⟨_,_,h,fun _ h'=>⟨a0,a1,a2,a3,a4,a5,a6,by rw [if_neg hc];exact h'⟩⟩
       ·exact h.elim
      ·obtain ⟨a2,h⟩:=h
       split at h
       ·obtain ⟨a3,a4,a5,a6,a7,a8,h⟩:=h
        split at h
        ·rename_i hc;exact ⟨_,_,h,fun _ h'=>⟨a0,a1,a2,a3,a4,a5,a6,a7,a8,by rw [if_pos hc];exact h'⟩⟩
        ·rename_i hc;obtain ⟨a9,h⟩:=h;exact ⟨_,_,h,fun _ h'=>⟨a0,a1,a2,a3,a4,a5,a6,a7,a8,by rw [if_neg hc];exact ⟨a9,h'⟩⟩⟩
       ·exact h.elim
      ·exact h.elim
     ·exact h.elim
    ·exact h.elim
   case copy =>
    split at h
    ·unfold aCopy at h ⊢
     split at h
     ·obtain ⟨a1,a2,a3,h⟩:=h
      split at h
      ·exact ⟨_,_,h.2,fun _ h'=>⟨a1,a2,a3,h.1,h'⟩⟩
      ·exact h.elim
     ·exact h.elim
    ·exact h.elim
   case min =>
    split at h
    ·unfold aMin at h ⊢
     split at h
     ·exact ⟨_,_,h,fun _ h'=>h'⟩
     ·exact h.elim
    ·exact h.elim
   case max =>
    split at h
    ·unfold aMax at h ⊢
     split at h
     ·exact ⟨_,_,h,fun _ h'=>h'⟩
     ·exact h.elim
    ·exact h.elim
   case delete =>
    split at h
    ·unfold aDelete at h ⊢
     split at h
     ·obtain ⟨a1,h⟩:=h
      split at h
      ·exact ⟨_,_,h.2,fun _ h'=>⟨a1,h.1,h'⟩⟩
      ·exact h.elim
     ·exact h.elim
    ·exact h.elim
theorem nilsW_det:∀ (cs:List AV) (l:List (Nat × Bool)) {Kn:List AV→AHeap→Prop} {H:AHeap},nilsW cs l Kn H→∃ cs' H',Kn cs' H'∧∀ Kn':List AV→AHeap→Prop,Kn' cs' H'→nilsW cs l Kn' H
 | [],_,_,H,h=>⟨[],H,h,fun _ h'=>h'⟩
 | c::cs,l,Kn,H,h=>by
  unfold nilsW at h
  split at h
  ·rename_i z b l' hc
   obtain ⟨cs',H',g1,g2⟩:=nilsW_det cs l' h
   exact ⟨_,H',g1,fun Kn' h'=>by unfold nilsW;rw [hc];exact g2 _ h'⟩
  ·rename_i hne
   obtain ⟨cs',H',g1,g2⟩:=nilsW_det cs _ h
   refine ⟨_,H',g1,fun Kn' h'=>?_⟩
   unfold nilsW
   split
   ·rename_i z b l' hc;exact absurd rfl (hne z b l' hc)
   ·exact g2 (fun cs' H'=>Kn' (c::cs') H') h'
theorem tokW_det {d:Option Nat} {v:AV} {H1:AHeap} (h:tokW md d Kn v H1):∃ v' H2,Kn v' H2∧∀ Kn':AV→AHeap→Prop,Kn' v' H2→tokW md d Kn' v H1:=by
 unfold tokW at h ⊢
 split at h
 ·exact ⟨_,_,h,fun _ h'=>h'⟩
 ·split at h
  ·split at h
   ·exact ⟨_,_,h,fun _ h'=>h'⟩
   ·exact ⟨_,_,h,fun _ h'=>h'⟩
  ·split at h
   ·exact ⟨_,_,h,fun _ h'=>h'⟩
   ·exact ⟨_,_,h,fun _ h'=>h'⟩
  ·split at h
   ·split at h
    ·obtain ⟨a1,a2,a3,h⟩:=h
     exact ⟨_,_,h,fun _ h'=>⟨a1,a2,a3,h'⟩⟩
    ·exact h.elim
   ·exact ⟨_,_,h,fun _ h'=>h'⟩
  ·split at h
   ·obtain ⟨cs',H',g1,g2⟩:=nilsW_det _ _ h
    exact ⟨.agg cs',H',g1,fun Kn' h'=>g2 (fun cs' H'=>Kn' (.agg cs') H') h'⟩
   ·exact ⟨_,_,h,fun _ h'=>h'⟩
  ·exact ⟨_,_,h,fun _ h'=>h'⟩
theorem aopT_det {o:Oper} (h:aop P md env H (tokW md o.dst Kn) o):∃ v H1,aop P md env H (tokW md o.dst fun v' H'=>v'=v∧H'=H1) o∧Kn v H1:=by
 obtain ⟨v,H1,h1,h2⟩:=aop_det h
 obtain ⟨v',H2,h3,h4⟩:=tokW_det h1
 exact ⟨v',H2,h2 _ (h4 _ ⟨rfl,rfl⟩),h3⟩
end
end Go.Abs
namespace Go.Abs
open Go
def unord (W:List (List Nat)) (k i:Nat):Bool:=(W.getD k []).contains i
def wt (ops:Array Oper):Nat→Nat→Nat→Bool
 | n,j,k=>match ops[j]? with
  | none=>false
  | some o=>o.after.toList.any fun e=>Region.binds .any e && (e.on == k || (match n with | 0=>false | n+1=>wt ops n e.on k))
def drawOk (ops:Array Oper) (eff:List Nat) (W:List (List Nat)):Bool :=
 Region.lexB .any ops && (List.range ops.size).all fun k=>(List.range k).all fun i =>
  if eff.contains k && eff.contains i then wt ops 2 k i
  else if eff.contains k || eff.contains i then unord W k i || wt ops 2 k i
  else true
section
variable (P:Program) (md:Nat→Mode) (ops:Array Oper) (eff:List Nat) (W:List (List Nat)) (Q:Env→AHeap→Prop)
def aOpA (j:Nat) (Cs:List (Nat × (AHeap→Prop))) (Ps:List (Nat × AHeap)) (K:Env→AHeap→Prop) (env:Env) (H:AHeap):Prop :=
 match ops[j]? with
 | none=>K env H
 | some o=>match wantedA ops env o with
  | none=>False
  | some false=>K (env.put o.dst (.tuple [])) H
  | some true=>if eff.contains j then ∃ v H1,Det P md o env H v H1∧(∀ c∈Cs,unord W j c.1=true→c.2 H1)∧K (env.put o.dst v) H1
   else ∃ v,Det P md o env H v H∧(∀ p∈Ps,unord W j p.1=true→Det P md o env p.2 v p.2)∧K (env.put o.dst v) H
def aAny:Nat→Array Bool→List (Nat × (AHeap→Prop))→List (Nat × AHeap)→Env→AHeap→Prop
 | 0,listed,Cs,Ps,env,H=>Region.ready .any ops listed=[]∧Q env H
 | fuel+1,listed,Cs,Ps,env,H=>(Region.ready .any ops listed=[]→Q env H) ∧
   ∀ j∈Region.ready .any ops listed,aOpA P md ops eff W j Cs Ps (fun env' H'=>aAny fuel (listed.setIfInBounds j true) Cs Ps env' H') env H
def aLex:List Oper→Nat→List (Nat × (AHeap→Prop))→List (Nat × AHeap)→Env→AHeap→Prop
 | [],_,_,_,env,H=>Q env H
 | o::l,k,Cs,Ps,env,H=>match wantedA ops env o with
  | none=>False
  | some false=>aLex l (k+1) Cs Ps (env.put o.dst (.tuple [])) H
  | some true=>if eff.contains k then ∃ v H1,Det P md o env H v H1∧(∀ c∈Cs,unord W k c.1=true→c.2 H1)∧aLex l (k+1) Cs ((k,H)::Ps) (env.put o.dst v) H1
   else ∃ v,Det P md o env H v H∧(∀ p∈Ps,unord W k p.1=true→Det P md o env p.2 v p.2)∧aLex l (k+1) ((k,fun H'=>Det P md o env H' v H')::Cs) Ps (env.put o.dst v) H
end
section
variable {P:Program} {md:Nat→Mode} {ops:Array Oper} {eff:List Nat} {W:List (List Nat)} {Q:Env→AHeap→Prop}
theorem aOpA_mono {j:Nat} {Cs Cs':List (Nat × (AHeap→Prop))} {Ps Ps':List (Nat × AHeap)} {K K':Env→AHeap→Prop} {env:Env} {H:AHeap} (hC:∀ c∈Cs',c∈Cs) (hP:∀ p∈Ps',p∈Ps) (hK:∀ e H,K e H→K' e H)
  (h:aOpA P md ops eff W j Cs Ps K env H):aOpA P md ops eff W j Cs' Ps' K' env H:=by
 unfold aOpA at h ⊢
 split at h
 ·exact hK _ _ h
 ·split at h
  ·exact h.elim
  ·exact hK _ _ h
  ·split at h
   ·rename_i hw hc
    obtain ⟨v,H1,h1,h2,h3⟩:=h
    rw [if_pos hc]
    exact ⟨v,H1,h1,fun c hc'=>h2 c (hC c hc'),hK _ _ h3⟩
   ·rename_i hw hc
    obtain ⟨v,h1,h2,h3⟩:=h
    rw [if_neg hc]
    exact ⟨v,h1,fun p hp=>h2 p (hP p hp),hK _ _ h3⟩
theorem aAny_mono:∀ {fuel:Nat} {listed:Array Bool} {Cs Cs':List (Nat × (AHeap→Prop))} {Ps Ps':List (Nat × AHeap)} {env:Env} {H:AHeap},(∀ c∈Cs',c∈Cs)→(∀ p∈Ps',p∈Ps) →
  aAny P md ops eff W Q fuel listed Cs Ps env H→aAny P md ops eff W Q fuel listed Cs' Ps' env H
 | 0,_,_,_,_,_,_,_,_,_,h=>h
 | fuel+1,_,_,_,_,_,_,_,hC,hP,h=>⟨h.1,fun j hj=>aOpA_mono hC hP (fun _ _ h=>aAny_mono hC hP h) (h.2 j hj)⟩
def Cl (ops:Array Oper) (listed:Array Bool):Prop:=∀ m o,ops[m]?=some o→listed.getD m false=true→∀ e∈o.after,Region.binds .any e=true→listed.getD e.on false=true
theorem wt_listed {listed:Array Bool} (hc:Cl ops listed):∀ (n j k:Nat),(∀ o,ops[j]?=some o→∀ e∈o.after,Region.binds .any e=true→listed.getD e.on false=true)→wt ops n j k=true→listed.getD k false=true:=by
 intro n
 induction n with
 | zero =>
  intro j k hj h
  unfold wt at h
  split at h
  ·cases h
  ·rename_i o ho
   rw [List.any_eq_true] at h
   obtain ⟨e,he,h⟩:=h
   simp only [Bool.and_eq_true,Bool.or_eq_true,beq_iff_eq,Bool.false_eq_true,or_false] at h
   rw [←h.2]
   exact hj o ho e (by simpa using he) h.1
 | succ n ih =>
  intro j k hj h
  unfold wt at h
  split at h
  ·cases h
  ·rename_i o ho
   rw [List.any_eq_true] at h
   obtain ⟨e,he,h⟩:=h
   simp only [Bool.and_eq_true,Bool.or_eq_true,beq_iff_eq] at h
   have hl:=hj o ho e (by simpa using he) h.1
   rcases h.2 with h2 | h2
   ·rw [←h2];exact hl
   ·exact ih e.on k (fun o' ho'=>hc e.on o' ho' hl) h2
theorem Cl.set {listed:Array Bool} (hc:Cl ops listed) {j:Nat} (hj:j∈Region.ready .any ops listed):Cl ops (listed.setIfInBounds j true):=by
 intro m o ho hm e he hb
 obtain ⟨_,oj,hoj,hall⟩:=mem_ready.1 hj
 by_cases h:m=j
 ·subst h
  obtain rfl:oj=o:=by rw [hoj] at ho;simpa using ho
  exact getD_set_true (hall e he hb)
 ·refine getD_set_true (hc m o ho ?_ e he hb)
  rwa [getD_set_ne false (Ne.symm h)] at hm
theorem put_comm {env:Env} {x y:Option Nat} {v u:AV} (h:∀ d,x=some d→y≠some d):(env.put x v).put y u=(env.put y u).put x v:=by
 cases x with
 | none=>rfl
 | some d =>
  cases y with
  | none=>rfl
  | some e =>
   have hne:d≠e:=fun he=>h d rfl (he ▸ rfl)
   funext t
   simp only [Env.put]
   by_cases h1:t=e <;> by_cases h2:t=d <;> simp_all
theorem aeval_put {env:Env} {o:Oper} {d:Option Nat} {v:AV} (h:∀ t,d=some t→t ∉ o.looksAt ops):∀ x∈o.op.operands,aeval (env.put d v) x=aeval env x:=by
 intro x hx
 cases x with
 | tmp t =>
  cases d with
  | none=>rfl
  | some d =>
   simp only [aeval,Env.put]
   rw [if_neg]
   intro he
   exact h d rfl (by subst he;exact List.mem_append_left _ (List.mem_filterMap.2 ⟨.tmp t,by simpa using hx,rfl⟩))
 | _=>rfl
theorem det_put {env:Env} {o:Oper} {d:Option Nat} {v u:AV} {H H1:AHeap} (h:∀ t,d=some t→t ∉ o.looksAt ops):Det P md o (env.put d v) H u H1↔Det P md o env H u H1 :=
 ⟨aStep_congr (fun x hx=>aeval_put h x hx),aStep_congr (fun x hx=>(aeval_put h x hx).symm)⟩
theorem wantedA_put {env:Env} {o:Oper} {d:Option Nat} {v:AV} (h:∀ t,d=some t→t ∉ o.looksAt ops):wantedA ops (env.put d v) o=wantedA ops env o:=by
 unfold wantedA
 split
 ·rfl
 ·rename_i j want hg
  split
  ·rename_i t ht
   have:t∈o.looksAt ops:=by
    unfold Oper.looksAt
    refine List.mem_append_right _ ?_
    rw [hg]
    simp only
    rw [ht]
    simp
   have hne:env.put d v t=env t:=by
    cases d with
    | none=>rfl
    | some d =>
     simp only [Env.put]
     rw [if_neg]
     intro he
     exact h d rfl (he ▸ this)
   rw [hne]
  ·rfl
structure TabOk (ops:Array Oper) (eff:List Nat) (W:List (List Nat)):Prop where
 both:∀ k i,k < ops.size→i < k→eff.contains k=true→eff.contains i=true→wt ops 2 k i=true
 one:∀ k i,k < ops.size→i < k→eff.contains k≠eff.contains i→unord W k i=false→wt ops 2 k i=true
theorem aAny_first (hT:TabOk ops eff W) {k:Nat} {ok:Oper} (hk:ops[k]?=some ok) (hkl:k < ops.size) :
  ∀ (fuel:Nat) (listed:Array Bool) (Cs:List (Nat × (AHeap→Prop))) (Ps:List (Nat × AHeap)) (env:Env) (H:AHeap),
   (∀ j oj,ops[j]?=some oj→j≠k→listed.getD j true=false→(∀ e∈oj.after,Region.binds .any e=true→e.on≠k)→ok.apart ops oj=true) →
   (∀ j,j < ops.size→listed.getD j true=false→k≤j)→Cl ops listed→k∈Region.ready .any ops listed →
   (
   (wantedA ops env ok=some false∧aAny P md ops eff W Q fuel (listed.setIfInBounds k true) Cs Ps (env.put ok.dst (.tuple [])) H) ∨
   (wantedA ops env ok=some true∧eff.contains k=true∧∃ v H1,Det P md ok env H v H1∧(∀ c∈Cs,unord W k c.1=true→c.2 H1)∧aAny P md ops eff W Q fuel (listed.setIfInBounds k true) Cs ((k,H)::Ps) (env.put ok.dst v) H1) ∨
   (wantedA ops env ok=some true∧eff.contains k=false∧∃ v,Det P md ok env H v H∧(∀ p∈Ps,unord W k p.1=true→Det P md ok env p.2 v p.2) ∧
     ∃ C:AHeap→Prop,(∀ H',C H'→Det P md ok env H' v H')∧aAny P md ops eff W Q fuel (listed.setIfInBounds k true) ((k,C)::Cs) Ps (env.put ok.dst v) H)) →
   aAny P md ops eff W Q (fuel+1) listed Cs Ps env H:=by
 intro fuel
 induction fuel with
 | zero =>
  intro listed Cs Ps env H _ _ _ hr hh
  refine ⟨fun h=>(by rw [h] at hr;cases hr),fun j hj=>?_⟩
  have hre:Region.ready .any ops (listed.setIfInBounds k true)=[]:=by
   rcases hh with ⟨_,h⟩ | ⟨_,_,v,H1,_,_,h⟩ | ⟨_,_,v,_,_,C,_,h⟩ <;> exact h.1
  obtain rfl:j=k:=by
   by_cases hjk:j=k
   ·exact hjk
   ·have:=ready_mono hj hjk
    rw [hre] at this;cases this
  unfold aOpA
  simp only [hk]
  rcases hh with ⟨hw,h⟩ | ⟨hw,he,v,H1,h1,h2,h⟩ | ⟨hw,he,v,h1,h2,C,h3,h⟩
  ·rw [hw];exact h
  ·rw [hw];simp only [he,if_true];exact ⟨v,H1,h1,h2,h⟩
  ·rw [hw];simp only [he,Bool.false_eq_true,if_false];exact ⟨v,h1,h2,h⟩
 | succ fuel ih =>
  intro listed Cs Ps env H hfree hlow hcl hr hh
  refine ⟨fun h=>(by rw [h] at hr;cases hr),fun j hj=>?_⟩
  by_cases hjk:j=k
  ·subst hjk
   unfold aOpA
   simp only [hk]
   rcases hh with ⟨hw,h⟩ | ⟨hw,he,v,H1,h1,h2,h⟩ | ⟨hw,he,v,h1,h2,C,h3,h⟩
   ·rw [hw];exact h
   ·rw [hw];simp only [he,if_true];exact ⟨v,H1,h1,h2,aAny_mono (fun _ h=>h) (fun p hp=>List.mem_cons_of_mem _ hp) h⟩
   ·rw [hw];simp only [he,Bool.false_eq_true,if_false];exact ⟨v,h1,h2,aAny_mono (fun c hc=>List.mem_cons_of_mem _ hc) (fun _ h=>h) h⟩
  ·
   have hjr:=ready_mono hj hjk
   obtain ⟨hjun,oj,hoj,hall⟩:=mem_ready.1 hj
   have hkun:=(mem_ready.1 hr).1
   have hkf:listed.getD k false≠true:=by
    intro h
    rcases Nat.lt_or_ge k listed.size with h' | h'
    ·simp [h'] at hkun h;rw [hkun] at h;cases h
    ·simp [Array.getElem?_eq_none h'] at h
   have hnot:∀ e∈oj.after,Region.binds .any e=true→e.on≠k:=fun e he hb heq=>hkf (heq ▸ hall e he hb)
   have hjlt:j < ops.size:=by
    rcases Nat.lt_or_ge j ops.size with h | h
    ·exact h
    ·simp [Array.getElem?_eq_none h] at hoj
   have hkj:k < j:=by have:=hlow j hjlt hjun;omega
   have hnw:wt ops 2 j k≠true:=fun h=>hkf (wt_listed hcl 2 j k (fun o ho=>by
    obtain rfl:oj=o:=by rw [hoj] at ho;simpa using ho
    exact hall) h)
   have hap:=hfree j oj hoj hjk hjun hnot
   obtain ⟨a1,a2,a3⟩:=Oper.apart_spec hap
   have hfree':∀ m om,ops[m]?=some om→m≠k→(listed.setIfInBounds j true).getD m true=false→(∀ e∈om.after,Region.binds .any e=true→e.on≠k)→ok.apart ops om=true:=fun m om hm hmk hun hno=>by
    refine hfree m om hm hmk ?_ hno
    by_cases hjm:j=m
    ·subst hjm;exact hjun
    ·rwa [getD_set_ne true hjm] at hun
   have hlow':∀ m,m < ops.size→(listed.setIfInBounds j true).getD m true=false→k≤m:=fun m hm hun=>by
    by_cases hjm:j=m
    ·omega
    ·rw [getD_set_ne true hjm] at hun;exact hlow m hm hun
   have hcl':=hcl.set hj
   have hr':=ready_mono hr (Ne.symm hjk)
   have hcomm:(listed.setIfInBounds k true).setIfInBounds j true=(listed.setIfInBounds j true).setIfInBounds k true:=Array.setIfInBounds_comm _ _ (Ne.symm hjk)
   have wk:∀ (e:Env) u,wantedA ops (e.put oj.dst u) ok=wantedA ops e ok:=fun e u=>wantedA_put a3
   have dk:∀ (e:Env) u v H H1,Det P md ok (e.put oj.dst u) H v H1↔Det P md ok e H v H1:=fun e u v H H1=>det_put a3
   have dj:∀ (e:Env) u v H H1,Det P md oj (e.put ok.dst u) H v H1↔Det P md oj e H v H1:=fun e u v H H1=>det_put a1
   have pc:∀ (e:Env) v u,(e.put ok.dst v).put oj.dst u=(e.put oj.dst u).put ok.dst v:=fun e v u=>put_comm a2
   have both:¬ (eff.contains k=true∧eff.contains j=true):=fun h=>hnw (hT.both j k hjlt hkj h.2 h.1)
   unfold aOpA
   simp only [hoj]
   rcases hh with ⟨hw,h⟩ | ⟨hw,he,v,H1,h1,h2,h⟩ | ⟨hw,he,v,h1,h2,C,h3,h⟩
   ·have hj2:=h.2 j hjr
    unfold aOpA at hj2
    simp only [hoj,wantedA_put (v:=.tuple []) a1] at hj2
    split at hj2
    ·exact hj2.elim
    ·rename_i hwj
     refine ih _ _ _ _ _ hfree' hlow' hcl' hr' (.inl ⟨by rw [wk];exact hw,?_⟩)
     rw [pc,hcomm] at hj2;exact hj2
    ·rename_i hwj
     split at hj2
     ·rename_i hej
      rw [if_pos hej]
      obtain ⟨u,H2,g1,g2,g3⟩:=hj2
      refine ⟨u,H2,(dj _ _ _ _ _).1 g1,g2,ih _ _ _ _ _ hfree' hlow' hcl' hr' (.inl ⟨by rw [wk];exact hw,?_⟩)⟩
      rw [pc,hcomm] at g3;exact g3
     ·rename_i hej
      rw [if_neg hej]
      obtain ⟨u,g1,g2,g3⟩:=hj2
      refine ⟨u,(dj _ _ _ _ _).1 g1,fun p hp hu=>(dj _ _ _ _ _).1 (g2 p hp hu),ih _ _ _ _ _ hfree' hlow' hcl' hr' (.inl ⟨by rw [wk];exact hw,?_⟩)⟩
      rw [pc,hcomm] at g3;exact g3
   ·have hej:eff.contains j≠true:=fun hej=>both ⟨he,hej⟩
    have hju:unord W j k=true:=by
     cases hz:unord W j k with
     | true=>rfl
     | false=>exact absurd (hT.one j k hjlt hkj (by rw [he];exact hej) hz) hnw
    have hj2:=h.2 j hjr
    unfold aOpA at hj2
    simp only [hoj,wantedA_put (v:=v) a1] at hj2
    split at hj2
    ·exact hj2.elim
    ·rename_i hwj
     refine ih _ _ _ _ _ hfree' hlow' hcl' hr' (.inr (.inl ⟨by rw [wk];exact hw,he,v,H1,(dk _ _ _ _ _).2 h1,h2,?_⟩))
     rw [pc,hcomm] at hj2;exact hj2
    ·rename_i hwj
     rw [if_neg hej] at hj2
     rw [if_neg hej]
     obtain ⟨u,g1,g2,g3⟩:=hj2
     refine ⟨u,(dj _ _ _ _ _).1 (g2 (k,H) (List.mem_cons_self ..) hju),fun p hp hu=>(dj _ _ _ _ _).1 (g2 p (List.mem_cons_of_mem _ hp) hu),
      ih _ _ _ _ _ hfree' hlow' hcl' hr' (.inr (.inl ⟨by rw [wk];exact hw,he,v,H1,(dk _ _ _ _ _).2 h1,h2,?_⟩))⟩
     rw [pc,hcomm] at g3;exact g3
   ·have hj2:=h.2 j hjr
    unfold aOpA at hj2
    simp only [hoj,wantedA_put (v:=v) a1] at hj2
    split at hj2
    ·exact hj2.elim
    ·rename_i hwj
     refine ih _ _ _ _ _ hfree' hlow' hcl' hr' (.inr (.inr ⟨by rw [wk];exact hw,he,v,(dk _ _ _ _ _).2 h1,fun p hp hu=>(dk _ _ _ _ _).2 (h2 p hp hu),C,fun H' hc=>(dk _ _ _ _ _).2 (h3 H' hc),?_⟩))
     rw [pc,hcomm] at hj2;exact hj2
    ·rename_i hwj
     split at hj2
     ·rename_i hej
      rw [if_pos hej]
      have hju:unord W j k=true:=by
       cases hz:unord W j k with
       | true=>rfl
       | false=>exact absurd (hT.one j k hjlt hkj (by rw [he,hej];simp) hz) hnw
      obtain ⟨u,H2,g1,g2,g3⟩:=hj2
      refine ⟨u,H2,(dj _ _ _ _ _).1 g1,fun c hc=>g2 c (List.mem_cons_of_mem _ hc),ih _ _ _ _ _ hfree' hlow' hcl' hr'
       (.inr (.inr ⟨by rw [wk];exact hw,he,v,(dk _ _ _ _ _).2 (h3 _ (g2 (k,C) (List.mem_cons_self ..) hju)),fun p hp hu=>(dk _ _ _ _ _).2 (h2 p hp hu),C,fun H' hc=>(dk _ _ _ _ _).2 (h3 H' hc),?_⟩))⟩
      rw [pc,hcomm] at g3;exact g3
     ·rename_i hej
      rw [if_neg hej]
      obtain ⟨u,g1,g2,g3⟩:=hj2
      refine ⟨u,(dj _ _ _ _ _).1 g1,fun p hp hu=>(dj _ _ _ _ _).1 (g2 p hp hu),ih _ _ _ _ _ hfree' hlow' hcl' hr'
       (.inr (.inr ⟨by rw [wk];exact hw,he,v,(dk _ _ _ _ _).2 h1,fun p hp hu=>(dk _ _ _ _ _).2 (h2 p hp hu),C,fun H' hc=>(dk _ _ _ _ _).2 (h3 H' hc),?_⟩))⟩
      rw [pc,hcomm] at g3;exact g3
theorem aAny_lex (hT:TabOk ops eff W):∀ (l:List Oper) (k:Nat) (listed:Array Bool) (Cs:List (Nat × (AHeap→Prop))) (Ps:List (Nat × AHeap)) (env:Env) (H:AHeap),(∀ j,l[j]?=ops[k+j]?) →
  (∀ j,j < ops.size→listed.getD j true=false→k≤j)→Cl ops listed→Region.lexFrom .any ops l.length k listed=true→aLex P md ops eff W Q l k Cs Ps env H→aAny P md ops eff W Q l.length listed Cs Ps env H
 | [],k,listed,Cs,Ps,env,H,_,_,_,hB,h=>⟨by simpa [Region.lexFrom] using hB,h⟩
 | o::l,k,listed,Cs,Ps,env,H,hl,hlow,hcl,hB,h=>by
  have h0:ops[k]?=some o:=by simpa using (hl 0).symm
  have hkl:k < ops.size:=by
   rcases Nat.lt_or_ge k ops.size with h | h
   ·exact h
   ·simp [Array.getElem?_eq_none h] at h0
  simp only [List.length_cons,Region.lexFrom,Bool.and_eq_true] at hB
  obtain ⟨⟨hr,hf⟩,hB'⟩:=hB
  have hr':k∈Region.ready .any ops listed:=by simpa using hr
  have hrec:=fun Cs Ps env H h=>aAny_lex hT l (k+1) (listed.setIfInBounds k true) Cs Ps env H (fun j=>by have:=hl (j+1);simpa [Nat.add_assoc,Nat.add_comm 1 j] using this)
   (fun j hj hun=>by
    by_cases hjk:k=j
    ·subst hjk
     exfalso
     have:k < listed.size:=by
      rcases Nat.lt_or_ge k listed.size with h' | h'
      ·exact h'
      ·have:=(mem_ready.1 hr').1
       simp [Array.getElem?_eq_none h'] at this
     simp [this] at hun
    ·rw [getD_set_ne true hjk] at hun;have:=hlow j hj hun;omega) (hcl.set hr') hB' h
  refine aAny_first hT h0 hkl l.length listed Cs Ps env H (Region.free_spec h0 hf) hlow hcl hr' ?_
  simp only [aLex] at h
  split at h
  ·exact h.elim
  ·rename_i hw;exact .inl ⟨hw,hrec _ _ _ _ h⟩
  ·rename_i hw
   split at h
   ·rename_i he
    obtain ⟨v,H1,h1,h2,h3⟩:=h
    exact .inr (.inl ⟨hw,he,v,H1,h1,h2,hrec _ _ _ _ h3⟩)
   ·rename_i he
    obtain ⟨v,h1,h2,h3⟩:=h
    exact .inr (.inr ⟨hw,by simpa using he,v,h1,h2,_,fun H' hc=>hc,hrec _ _ _ _ h3⟩)
theorem tabOk_of (h:drawOk ops eff W=true):TabOk ops eff W∧Region.lexB .any ops=true:=by
 unfold drawOk at h
 rw [Bool.and_eq_true,List.all_eq_true] at h
 obtain ⟨h1,h2⟩:=h
 refine ⟨⟨fun k i hk hi he1 he2=>?_,fun k i hk hi hne hu=>?_⟩,h1⟩
 ·have:=List.all_eq_true.1 (h2 k (by simpa using hk)) i (by simpa using hi)
  simp only [he1,he2,Bool.and_self,if_true] at this
  exact this
 ·have:=List.all_eq_true.1 (h2 k (by simpa using hk)) i (by simpa using hi)
  cases hk1:eff.contains k <;> cases hi1:eff.contains i <;> simp_all
variable {n:Nat} {ds:List Deferred} {Qc:Exit→Act→World→Prop} {K0:KW} {w0:World} {H0:AHeap}
theorem aAny_sound {ro:Option Nat} (hd:∀ o∈ops.toList,∀ t,o.dst=some t→t < n) (hQ:∀ K w H env a,Ext K0 w0 H0 K w H→EnvOk K w env a n ds→Q env H→Qc .normal a w) :
  ∀ (fuel:Nat) (listed:Array Bool) (Cs:List (Nat × (AHeap→Prop))) (Ps:List (Nat × AHeap)) (K:KW) (w:World) (H:AHeap) (env:Env) (a:Act),Ext K0 w0 H0 K w H→EnvOk K w env a n ds →
   aAny P md ops eff W Q fuel listed Cs Ps env H→wpAnyIn (fenceR ro) 0 P .any ops Qc fuel listed a w
 | 0,listed,Cs,Ps,K,w,H,env,a,hX,hE,h=>⟨h.1,hQ K w H env a hX hE h.2⟩
 | fuel+1,listed,Cs,Ps,K,w,H,env,a,hX,hE,h=>by
  refine ⟨fun hr=>hQ K w H env a hX hE (h.1 hr),fun j hj=>?_⟩
  have hj2:=h.2 j hj
  have hrec:=fun K w H env a hX hE h=>aAny_sound (ro:=ro) hd hQ fuel (listed.setIfInBounds j true) Cs Ps K w H env a hX hE h
  unfold aOpA at hj2
  unfold wpOpIn
  split at hj2
  ·rename_i ho;simp only [ho];exact hrec _ _ _ _ _ hX hE hj2
  ·rename_i o ho
   simp only [ho]
   have hlt:∀ t,o.dst=some t→t < n:=hd o (by
    have:j < ops.size:=by
     rcases Nat.lt_or_ge j ops.size with h' | h'
     ·exact h'
     ·simp [Array.getElem?_eq_none h'] at ho
    rw [Array.getElem?_eq_getElem this] at ho
    simp only [Option.some.injEq] at ho
    rw [←ho];simp)
   split at hj2
   ·exact hj2.elim
   ·rename_i hw
    rw [wantedA_sound hE hw]
    simp only [Bool.false_eq_true,if_false]
    exact ⟨fun _ _=>trivial,hrec _ _ _ _ _ hX (hE.put (v:=.tuple []) hlt ⟨#[],rfl,rfl⟩) hj2⟩
   ·rename_i hw
    rw [wantedA_sound hE hw,if_pos rfl]
    split at hj2
    ·obtain ⟨v,H1,g1,_,g3⟩:=hj2
     refine (step_sound hX.inv hE g1 fun x v' K' w' H' h1 h2 h3=>?_)
     obtain ⟨rfl,rfl⟩:=h3
     exact hrec _ _ _ _ _ (hX.trans h1) ((hE.step h1.step).put hlt h2) g3
    ·obtain ⟨v,g1,_,g3⟩:=hj2
     refine (step_sound hX.inv hE g1 fun x v' K' w' H' h1 h2 h3=>?_)
     obtain ⟨rfl,rfl⟩:=h3
     exact hrec _ _ _ _ _ (hX.trans h1) ((hE.step h1.step).put hlt h2) g3
end
end Go.Abs
namespace Go.Abs
open Go
section
variable (ops:Array Oper) (eff:List Nat) (W:List (List Nat)) (fs:List Nat) (D:Nat→Oper→Env→AHeap→AV→AHeap→Prop) (Q:Env→AHeap→Prop)
def gOpA (j:Nat) (Cs:List (Nat × (AHeap→Prop))) (Ps:List (Nat × AHeap)) (K:Env→AHeap→Prop) (env:Env) (H:AHeap):Prop :=
 match ops[j]? with
 | none=>K env H
 | some o=>match wantedA ops env o with
  | none=>False
  | some false=>K (env.put o.dst (.tuple [])) H
  | some true=>if eff.contains j then ∃ v H1,D j o env H v H1∧(∀ c∈Cs,unord W j c.1=true→c.2 H1)∧K (env.put o.dst v) H1
   else ∃ v,D j o env H v H∧(∀ p∈Ps,unord W j p.1=true→D j o env p.2 v p.2)∧K (env.put o.dst v) H
def gAny:Nat→Array Bool→List (Nat × (AHeap→Prop))→List (Nat × AHeap)→Env→AHeap→Prop
 | 0,listed,Cs,Ps,env,H=>Region.ready .any ops listed=[]∧(∀ i∈fs,listed.getD i false=true)∧Q env H
 | fuel+1,listed,Cs,Ps,env,H=>(Region.ready .any ops listed=[]→(∀ i∈fs,listed.getD i false=true)∧Q env H) ∧
   ∀ j∈Region.ready .any ops listed,gOpA ops eff W D j Cs Ps (fun env' H'=>gAny fuel (listed.setIfInBounds j true) Cs Ps env' H') env H
def gLex:List Oper→Nat→List (Nat × (AHeap→Prop))→List (Nat × AHeap)→Env→AHeap→Prop
 | [],_,_,_,env,H=>Q env H
 | o::l,k,Cs,Ps,env,H=>match wantedA ops env o with
  | none=>False
  | some false=>gLex l (k+1) Cs Ps (env.put o.dst (.tuple [])) H
  | some true=>if eff.contains k then ∃ v H1,D k o env H v H1∧(∀ c∈Cs,unord W k c.1=true→c.2 H1)∧gLex l (k+1) Cs ((k,H)::Ps) (env.put o.dst v) H1
   else ∃ v,D k o env H v H∧(∀ p∈Ps,unord W k p.1=true→D k o env p.2 v p.2)∧gLex l (k+1) ((k,fun H'=>D k o env H' v H')::Cs) Ps (env.put o.dst v) H
end
section
variable {ops:Array Oper} {eff:List Nat} {W:List (List Nat)} {fs:List Nat} {D:Nat→Oper→Env→AHeap→AV→AHeap→Prop} {Q:Env→AHeap→Prop}
theorem gOpA_mono {j:Nat} {Cs Cs':List (Nat × (AHeap→Prop))} {Ps Ps':List (Nat × AHeap)} {K K':Env→AHeap→Prop} {env:Env} {H:AHeap} (hC:∀ c∈Cs',c∈Cs) (hP:∀ p∈Ps',p∈Ps) (hK:∀ e H,K e H→K' e H)
  (h:gOpA ops eff W D j Cs Ps K env H):gOpA ops eff W D j Cs' Ps' K' env H:=by
 unfold gOpA at h ⊢
 split at h
 ·exact hK _ _ h
 ·split at h
  ·exact h.elim
  ·exact hK _ _ h
  ·split at h
   ·rename_i hw hc
    obtain ⟨v,H1,h1,h2,h3⟩:=h
    rw [if_pos hc]
    exact ⟨v,H1,h1,fun c hc'=>h2 c (hC c hc'),hK _ _ h3⟩
   ·rename_i hw hc
    obtain ⟨v,h1,h2,h3⟩:=h
    rw [if_neg hc]
    exact ⟨v,h1,fun p hp=>h2 p (hP p hp),hK _ _ h3⟩
theorem gAny_mono:∀ {fuel:Nat} {listed:Array Bool} {Cs Cs':List (Nat × (AHeap→Prop))} {Ps Ps':List (Nat × AHeap)} {env:Env} {H:AHeap},(∀ c∈Cs',c∈Cs)→(∀ p∈Ps',p∈Ps) →
  gAny ops eff W fs D Q fuel listed Cs Ps env H→gAny ops eff W fs D Q fuel listed Cs' Ps' env H
 | 0,_,_,_,_,_,_,_,_,_,h=>h
 | fuel+1,_,_,_,_,_,_,_,hC,hP,h=>⟨h.1,fun j hj=>gOpA_mono hC hP (fun _ _ h=>gAny_mono hC hP h) (h.2 j hj)⟩
def DOk (ops:Array Oper) (D:Nat→Oper→Env→AHeap→AV→AHeap→Prop):Prop:=∀ (j:Nat) (o:Oper) (d:Option Nat) (env:Env) (u v:AV) (H H1:AHeap),(∀ t,d=some t→t ∉ o.looksAt ops)→(D j o (env.put d u) H v H1↔D j o env H v H1)
theorem gAny_first (hD:DOk ops D) (hT:TabOk ops eff W) {k:Nat} {ok:Oper} (hk:ops[k]?=some ok) (hkl:k < ops.size) :
  ∀ (fuel:Nat) (listed:Array Bool) (Cs:List (Nat × (AHeap→Prop))) (Ps:List (Nat × AHeap)) (env:Env) (H:AHeap),
   (∀ j oj,ops[j]?=some oj→j≠k→listed.getD j true=false→(∀ e∈oj.after,Region.binds .any e=true→e.on≠k)→ok.apart ops oj=true) →
   (∀ j,j < ops.size→listed.getD j true=false→k≤j)→Cl ops listed→k∈Region.ready .any ops listed →
   (
   (wantedA ops env ok=some false∧gAny ops eff W fs D Q fuel (listed.setIfInBounds k true) Cs Ps (env.put ok.dst (.tuple [])) H) ∨
   (wantedA ops env ok=some true∧eff.contains k=true∧∃ v H1,D k ok env H v H1∧(∀ c∈Cs,unord W k c.1=true→c.2 H1)∧gAny ops eff W fs D Q fuel (listed.setIfInBounds k true) Cs ((k,H)::Ps) (env.put ok.dst v) H1) ∨
   (wantedA ops env ok=some true∧eff.contains k=false∧∃ v,D k ok env H v H∧(∀ p∈Ps,unord W k p.1=true→D k ok env p.2 v p.2) ∧
     ∃ C:AHeap→Prop,(∀ H',C H'→D k ok env H' v H')∧gAny ops eff W fs D Q fuel (listed.setIfInBounds k true) ((k,C)::Cs) Ps (env.put ok.dst v) H)) →
   gAny ops eff W fs D Q (fuel+1) listed Cs Ps env H:=by
 intro fuel
 induction fuel with
 | zero =>
  intro listed Cs Ps env H _ _ _ hr hh
  refine ⟨fun h=>(by rw [h] at hr;cases hr),fun j hj=>?_⟩
  have hre:Region.ready .any ops (listed.setIfInBounds k true)=[]:=by
   rcases hh with ⟨_,h⟩ | ⟨_,_,v,H1,_,_,h⟩ | ⟨_,_,v,_,_,C,_,h⟩ <;> exact h.1
  obtain rfl:j=k:=by
   by_cases hjk:j=k
   ·exact hjk
   ·have:=ready_mono hj hjk
    rw [hre] at this;cases this
  unfold gOpA
  simp only [hk]
  rcases hh with ⟨hw,h⟩ | ⟨hw,he,v,H1,h1,h2,h⟩ | ⟨hw,he,v,h1,h2,C,h3,h⟩
  ·rw [hw];exact h
  ·rw [hw];simp only [he,if_true];exact ⟨v,H1,h1,h2,h⟩
  ·rw [hw];simp only [he,Bool.false_eq_true,if_false];exact ⟨v,h1,h2,h⟩
 | succ fuel ih =>
  intro listed Cs Ps env H hfree hlow hcl hr hh
  refine ⟨fun h=>(by rw [h] at hr;cases hr),fun j hj=>?_⟩
  by_cases hjk:j=k
  ·subst hjk
   unfold gOpA
   simp only [hk]
   rcases hh with ⟨hw,h⟩ | ⟨hw,he,v,H1,h1,h2,h⟩ | ⟨hw,he,v,h1,h2,C,h3,h⟩
   ·rw [hw];exact h
   ·rw [hw];simp only [he,if_true];exact ⟨v,H1,h1,h2,gAny_mono (fun _ h=>h) (fun p hp=>List.mem_cons_of_mem _ hp) h⟩
   ·rw [hw];simp only [he,Bool.false_eq_true,if_false];exact ⟨v,h1,h2,gAny_mono (fun c hc=>List.mem_cons_of_mem _ hc) (fun _ h=>h) h⟩
  ·
   have hjr:=ready_mono hj hjk
   obtain ⟨hjun,oj,hoj,hall⟩:=mem_ready.1 hj
   have hkun:=(mem_ready.1 hr).1
   have hkf:listed.getD k false≠true:=by
    intro h
    rcases Nat.lt_or_ge k listed.size with h' | h'
    ·simp [h'] at hkun h;rw [hkun] at h;cases h
    ·simp [Array.getElem?_eq_none h'] at h
   have hnot:∀ e∈oj.after,Region.binds .any e=true→e.on≠k:=fun e he hb heq=>hkf (heq ▸ hall e he hb)
   have hjlt:j < ops.size:=by
    rcases Nat.lt_or_ge j ops.size with h | h
    ·exact h
    ·simp [Array.getElem?_eq_none h] at hoj
   have hkj:k < j:=by have:=hlow j hjlt hjun;omega
   have hnw:wt ops 2 j k≠true:=fun h=>hkf (wt_listed hcl 2 j k (fun o ho=>by
    obtain rfl:oj=o:=by rw [hoj] at ho;simpa using ho
    exact hall) h)
   have hap:=hfree j oj hoj hjk hjun hnot
   obtain ⟨a1,a2,a3⟩:=Oper.apart_spec hap
   have hfree':∀ m om,ops[m]?=some om→m≠k→(listed.setIfInBounds j true).getD m true=false→(∀ e∈om.after,Region.binds .any e=true→e.on≠k)→ok.apart ops om=true:=fun m om hm hmk hun hno=>by
    refine hfree m om hm hmk ?_ hno
    by_cases hjm:j=m
    ·subst hjm;exact hjun
    ·rwa [getD_set_ne true hjm] at hun
   have hlow':∀ m,m < ops.size→(listed.setIfInBounds j true).getD m true=false→k≤m:=fun m hm hun=>by
    by_cases hjm:j=m
    ·omega
    ·rw [getD_set_ne true hjm] at hun;exact hlow m hm hun
   have hcl':=hcl.set hj
   have hr':=ready_mono hr (Ne.symm hjk)
   have hcomm:(listed.setIfInBounds k true).setIfInBounds j true=(listed.setIfInBounds j true).setIfInBounds k true:=Array.setIfInBounds_comm _ _ (Ne.symm hjk)
   have wk:∀ (e:Env) u,wantedA ops (e.put oj.dst u) ok=wantedA ops e ok:=fun e u=>wantedA_put a3
   have dk:∀ (e:Env) u v H H1,D k ok (e.put oj.dst u) H v H1↔D k ok e H v H1:=fun e u v H H1=>hD _ _ _ _ _ _ _ _ a3
   have dj:∀ (e:Env) u v H H1,D j oj (e.put ok.dst u) H v H1↔D j oj e H v H1:=fun e u v H H1=>hD _ _ _ _ _ _ _ _ a1
   have pc:∀ (e:Env) v u,(e.put ok.dst v).put oj.dst u=(e.put oj.dst u).put ok.dst v:=fun e v u=>put_comm a2
   have both:¬ (eff.contains k=true∧eff.contains j=true):=fun h=>hnw (hT.both j k hjlt hkj h.2 h.1)
   unfold gOpA
   simp only [hoj]
   rcases hh with ⟨hw,h⟩ | ⟨hw,he,v,H1,h1,h2,h⟩ | ⟨hw,he,v,h1,h2,C,h3,h⟩
   ·have hj2:=h.2 j hjr
    unfold gOpA at hj2
    simp only [hoj,wantedA_put (v:=.tuple []) a1] at hj2
    split at hj2
    ·exact hj2.elim
    ·rename_i hwj
     refine ih _ _ _ _ _ hfree' hlow' hcl' hr' (.inl ⟨by rw [wk];exact hw,?_⟩)
     rw [pc,hcomm] at hj2;exact hj2
    ·rename_i hwj
     split at hj2
     ·rename_i hej
      rw [if_pos hej]
      obtain ⟨u,H2,g1,g2,g3⟩:=hj2
      refine ⟨u,H2,(dj _ _ _ _ _).1 g1,g2,ih _ _ _ _ _ hfree' hlow' hcl' hr' (.inl ⟨by rw [wk];exact hw,?_⟩)⟩
      rw [pc,hcomm] at g3;exact g3
     ·rename_i hej
      rw [if_neg hej]
      obtain ⟨u,g1,g2,g3⟩:=hj2
      refine ⟨u,(dj _ _ _ _ _).1 g1,fun p hp hu=>(dj _ _ _ _ _).1 (g2 p hp hu),ih _ _ _ _ _ hfree' hlow' hcl' hr' (.inl ⟨by rw [wk];exact hw,?_⟩)⟩
      rw [pc,hcomm] at g3;exact g3
   ·have hej:eff.contains j≠true:=fun hej=>both ⟨he,hej⟩
    have hju:unord W j k=true:=by
     cases hz:unord W j k with
     | true=>rfl
     | false=>exact absurd (hT.one j k hjlt hkj (by rw [he];exact hej) hz) hnw
    have hj2:=h.2 j hjr
    unfold gOpA at hj2
    simp only [hoj,wantedA_put (v:=v) a1] at hj2
    split at hj2
    ·exact hj2.elim
    ·rename_i hwj
     refine ih _ _ _ _ _ hfree' hlow' hcl' hr' (.inr (.inl ⟨by rw [wk];exact hw,he,v,H1,(dk _ _ _ _ _).2 h1,h2,?_⟩))
     rw [pc,hcomm] at hj2;exact hj2
    ·rename_i hwj
     rw [if_neg hej] at hj2
     rw [if_neg hej]
     obtain ⟨u,g1,g2,g3⟩:=hj2
     refine ⟨u,(dj _ _ _ _ _).1 (g2 (k,H) (List.mem_cons_self ..) hju),fun p hp hu=>(dj _ _ _ _ _).1 (g2 p (List.mem_cons_of_mem _ hp) hu),
      ih _ _ _ _ _ hfree' hlow' hcl' hr' (.inr (.inl ⟨by rw [wk];exact hw,he,v,H1,(dk _ _ _ _ _).2 h1,h2,?_⟩))⟩
     rw [pc,hcomm] at g3;exact g3
   ·have hj2:=h.2 j hjr
    unfold gOpA at hj2
    simp only [hoj,wantedA_put (v:=v) a1] at hj2
    split at hj2
    ·exact hj2.elim
    ·rename_i hwj
     refine ih _ _ _ _ _ hfree' hlow' hcl' hr' (.inr (.inr ⟨by rw [wk];exact hw,he,v,(dk _ _ _ _ _).2 h1,fun p hp hu=>(dk _ _ _ _ _).2 (h2 p hp hu),C,fun H' hc=>(dk _ _ _ _ _).2 (h3 H' hc),?_⟩))
     rw [pc,hcomm] at hj2;exact hj2
    ·rename_i hwj
     split at hj2
     ·rename_i hej
      rw [if_pos hej]
      have hju:unord W j k=true:=by
       cases hz:unord W j k with
       | true=>rfl
       | false=>exact absurd (hT.one j k hjlt hkj (by rw [he,hej];simp) hz) hnw
      obtain ⟨u,H2,g1,g2,g3⟩:=hj2
      refine ⟨u,H2,(dj _ _ _ _ _).1 g1,fun c hc=>g2 c (List.mem_cons_of_mem _ hc),ih _ _ _ _ _ hfree' hlow' hcl' hr'
       (.inr (.inr ⟨by rw [wk];exact hw,he,v,(dk _ _ _ _ _).2 (h3 _ (g2 (k,C) (List.mem_cons_self ..) hju)),fun p hp hu=>(dk _ _ _ _ _).2 (h2 p hp hu),C,fun H' hc=>(dk _ _ _ _ _).2 (h3 H' hc),?_⟩))⟩
      rw [pc,hcomm] at g3;exact g3
     ·rename_i hej
      rw [if_neg hej]
      obtain ⟨u,g1,g2,g3⟩:=hj2
      refine ⟨u,(dj _ _ _ _ _).1 g1,fun p hp hu=>(dj _ _ _ _ _).1 (g2 p hp hu),ih _ _ _ _ _ hfree' hlow' hcl' hr'
       (.inr (.inr ⟨by rw [wk];exact hw,he,v,(dk _ _ _ _ _).2 h1,fun p hp hu=>(dk _ _ _ _ _).2 (h2 p hp hu),C,fun H' hc=>(dk _ _ _ _ _).2 (h3 H' hc),?_⟩))⟩
      rw [pc,hcomm] at g3;exact g3
theorem gAny_lex (hD:DOk ops D) (hT:TabOk ops eff W) (hfs:∀ i∈fs,i < ops.size):∀ (l:List Oper) (k:Nat) (listed:Array Bool) (Cs:List (Nat × (AHeap→Prop))) (Ps:List (Nat × AHeap)) (env:Env) (H:AHeap),(∀ j,l[j]?=ops[k+j]?)→listed.size=ops.size →
  (∀ j,j < ops.size→listed.getD j true=false→k≤j)→Cl ops listed→Region.lexFrom .any ops l.length k listed=true→gLex ops eff W D Q l k Cs Ps env H→gAny ops eff W fs D Q l.length listed Cs Ps env H
 | [],k,listed,Cs,Ps,env,H,hl,hsz,hlow,_,hB,h=>by
  refine ⟨by simpa [Region.lexFrom] using hB,fun i hi=>?_,h⟩
  have hk:ops.size≤k:=by
   have:=hl 0
   simp only [List.getElem?_nil,Nat.add_zero] at this
   exact Array.getElem?_eq_none_iff.1 this.symm
  have hlt:=hfs i hi
  have hlt':i < listed.size:=by omega
  cases hb:listed[i] with
  | true=>simp [hlt',hb]
  | false =>
   have:=hlow i hlt (by simp [hlt',hb])
   omega
 | o::l,k,listed,Cs,Ps,env,H,hl,hsz,hlow,hcl,hB,h=>by
  have h0:ops[k]?=some o:=by simpa using (hl 0).symm
  have hkl:k < ops.size:=by
   rcases Nat.lt_or_ge k ops.size with h | h
   ·exact h
   ·simp [Array.getElem?_eq_none h] at h0
  simp only [List.length_cons,Region.lexFrom,Bool.and_eq_true] at hB
  obtain ⟨⟨hr,hf⟩,hB'⟩:=hB
  have hr':k∈Region.ready .any ops listed:=by simpa using hr
  have hrec:=fun Cs Ps env H h=>gAny_lex hD hT hfs l (k+1) (listed.setIfInBounds k true) Cs Ps env H (fun j=>by have:=hl (j+1);simpa [Nat.add_assoc,Nat.add_comm 1 j] using this) (by simpa using hsz)
   (fun j hj hun=>by
    by_cases hjk:k=j
    ·subst hjk
     exfalso
     have:k < listed.size:=by omega
     simp [this] at hun
    ·rw [getD_set_ne true hjk] at hun;have:=hlow j hj hun;omega) (hcl.set hr') hB' h
  refine gAny_first hD hT h0 hkl l.length listed Cs Ps env H (Region.free_spec h0 hf) hlow hcl hr' ?_
  simp only [gLex] at h
  split at h
  ·exact h.elim
  ·rename_i hw;exact .inl ⟨hw,hrec _ _ _ _ h⟩
  ·rename_i hw
   split at h
   ·rename_i he
    obtain ⟨v,H1,h1,h2,h3⟩:=h
    exact .inr (.inl ⟨hw,he,v,H1,h1,h2,hrec _ _ _ _ h3⟩)
   ·rename_i he
    obtain ⟨v,h1,h2,h3⟩:=h
    exact .inr (.inr ⟨hw,by simpa using he,v,h1,h2,_,fun H' hc=>hc,hrec _ _ _ _ h3⟩)
end
abbrev Fl:=List (Nat × (AHeap→AHeap))
def appF (τ:Nat→Bool):Fl→AHeap→AHeap
 | [],H=>H
 | (j,φ)::l,H=>appF τ l (if τ j=true then φ H else H)
def okF (ops:Array Oper) (fl:Fl) (j:Nat) (τ:Nat→Bool):Prop:=(∀ i∈fl.map (·.1),wt ops 2 j i=true→τ i=true)∧∀ i∈fl.map (·.1),wt ops 2 i j=true∨i=j→τ i=false
def flD (P:Program) (md:Nat→Mode) (ops:Array Oper) (fl:Fl) (j:Nat) (o:Oper) (env:Env) (H:AHeap) (v:AV) (H1:AHeap):Prop :=
 if (fl.map (·.1)).contains j then H1=H∧∀ τ,okF ops fl j τ→Det P md o env (appF τ fl H) v (appF (fun i=>if i=j then true else τ i) fl H)
 else ∀ τ,okF ops fl j τ→Det P md o env (appF τ fl H) v (appF τ fl H1)
def flOk (ops:Array Oper) (eff:List Nat) (fl:Fl):Bool:=fl.all fun p=>!eff.contains p.1 && (match ops[p.1]? with | some o=>o.guard.isNone | none=>false)
def holes:Nat→AHeap→AHeap
 | 0,H=>H
 | n+1,H=>holes n (H.alloc .hole)
def gDraw (P:Program) (md:Nat→Mode) (ops:Array Oper) (Q:Env→AHeap→Prop) (env:Env) (H:AHeap):Prop :=
 ∃ n fl eff W,drawOk ops eff W=true∧flOk ops eff fl=true∧gLex ops eff W (flD P md ops fl) (fun env H=>Q env (appF (fun _=>true) fl H)) ops.toList 0 [] [] env (holes n H)
section
variable {P:Program} {md:Nat→Mode} {ops:Array Oper} {eff:List Nat} {W:List (List Nat)} {Q:Env→AHeap→Prop} {fl:Fl}
theorem flD_ok:DOk ops (flD P md ops fl):=by
 intro j o d env u v H H1 hd
 unfold flD
 simp only [det_put hd]
theorem gLex_mono {D:Nat→Oper→Env→AHeap→AV→AHeap→Prop} {Qr Qr':Env→AHeap→Prop} (hk:∀ env H,Qr env H→Qr' env H) :
  ∀ {l:List Oper} {k:Nat} {Cs:List (Nat × (AHeap→Prop))} {Ps:List (Nat × AHeap)} {env:Env} {H:AHeap},gLex ops eff W D Qr l k Cs Ps env H→gLex ops eff W D Qr' l k Cs Ps env H
 | [],_,_,_,_,_,h=>hk _ _ h
 | o::l,k,Cs,Ps,env,H,h=>by
  simp only [gLex] at h ⊢
  split at h
  ·exact h
  ·exact gLex_mono hk h
  ·split at h
   ·rename_i he
    simp only [he,if_true]
    obtain ⟨v,H1,h1,h2,h3⟩:=h
    exact ⟨v,H1,h1,h2,gLex_mono hk h3⟩
   ·rename_i he
    simp only [he,if_false]
    obtain ⟨v,h1,h2,h3⟩:=h
    exact ⟨v,h1,h2,gLex_mono hk h3⟩
theorem gDraw_mono {Qr Qr':Env→AHeap→Prop} (hk:∀ env H,Qr env H→Qr' env H) {env:Env} {H:AHeap} (h:gDraw P md ops Qr env H):gDraw P md ops Qr' env H:=by
 obtain ⟨n,fl,eff,W,h1,h2,h3⟩:=h
 exact ⟨n,fl,eff,W,h1,h2,gLex_mono (fun _ _ h=>hk _ _ h) h3⟩
theorem appF_congr {τ ρ:Nat→Bool}:∀ {fl:Fl} {H:AHeap},(∀ p∈fl,τ p.1=ρ p.1)→appF τ fl H=appF ρ fl H
 | [],_,_=>rfl
 | p::fl,H,h=>by
  obtain ⟨j,φ⟩:=p
  simp only [appF]
  rw [h (j,φ) (by simp),appF_congr fun q hq=>h q (by simp [hq])]
variable {n:Nat} {ds:List Deferred} {Qc:Exit→Act→World→Prop} {K0:KW} {w0:World} {H0:AHeap}
theorem gAny_sound {ro:Option Nat} (hfl:flOk ops eff fl=true) (hd:∀ o∈ops.toList,∀ t,o.dst=some t→t < n) (hQ:∀ K w H env a,Ext K0 w0 H0 K w H→EnvOk K w env a n ds→Q env H→Qc .normal a w) :
  ∀ (fuel:Nat) (listed:Array Bool) (Cs:List (Nat × (AHeap→Prop))) (Ps:List (Nat × AHeap)) (K:KW) (w:World) (H:AHeap) (env:Env) (a:Act),listed.size=ops.size→Cl ops listed→Ext K0 w0 H0 K w (appF (fun i=>listed.getD i false) fl H)→EnvOk K w env a n ds →
   gAny ops eff W (fl.map (·.1)) (flD P md ops fl) (fun env H=>Q env (appF (fun _=>true) fl H)) fuel listed Cs Ps env H→wpAnyIn (fenceR ro) 0 P .any ops Qc fuel listed a w
 | 0,listed,Cs,Ps,K,w,H,env,a,hsz,hcl,hX,hE,h=>by
  refine ⟨h.1,hQ K w _ env a hX hE ?_⟩
  rw [appF_congr (ρ:=fun _=>true) (fun p hp=>h.2.1 p.1 (List.mem_map_of_mem hp))]
  exact h.2.2
 | fuel+1,listed,Cs,Ps,K,w,H,env,a,hsz,hcl,hX,hE,h=>by
  refine ⟨fun hr=>hQ K w _ env a hX hE ?_,fun j hj=>?_⟩
  ·rw [appF_congr (ρ:=fun _=>true) (fun p hp=>(h.1 hr).1 p.1 (List.mem_map_of_mem hp))]
   exact (h.1 hr).2
  have hj2:=h.2 j hj
  have hrec:=fun K w H env a hX hE h=>gAny_sound (ro:=ro) hfl hd hQ fuel (listed.setIfInBounds j true) Cs Ps K w H env a (by simpa using hsz) (hcl.set hj) hX hE h
  obtain ⟨hjun,oj,hoj,hall⟩:=mem_ready.1 hj
  have hjlt:j < ops.size:=by
   rcases Nat.lt_or_ge j ops.size with h | h
   ·exact h
   ·simp [Array.getElem?_eq_none h] at hoj
  have hjl:j < listed.size:=by omega
  have hjf:listed.getD j false=false:=by
   simp [hjl] at hjun ⊢;exact hjun
  have hok:okF ops fl j (fun i=>listed.getD i false):=by
   refine ⟨fun i _ hw=>wt_listed hcl 2 j i (fun o ho=>by
    obtain rfl:oj=o:=by rw [hoj] at ho;simpa using ho
    exact hall) hw,fun i hi hw=>?_⟩
   rcases hw with hw | rfl
   ·cases hb:listed.getD i false with
    | false=>exact hb
    | true =>
     have hi':listed.getD i false=true:=hb
     have:=wt_listed hcl 2 i j (fun o ho=>hcl i o ho hi') hw
     rw [hjf] at this;cases this
   ·exact hjf
  have hset:∀ p∈fl,p.1≠j→(listed.setIfInBounds j true).getD p.1 false=listed.getD p.1 false:=fun p _ hne=>getD_set_ne false (Ne.symm hne)
  have hsj:(listed.setIfInBounds j true).getD j false=true:=by simp [hjl]
  unfold gOpA at hj2
  unfold wpOpIn
  simp only [hoj] at hj2 ⊢
  have hlt:∀ t,oj.dst=some t→t < n:=hd oj (by
   rw [Array.getElem?_eq_getElem hjlt] at hoj
   simp only [Option.some.injEq] at hoj
   rw [←hoj];simp)
  have hnf:wantedA ops env oj=some false→(fl.map (·.1)).contains j=false:=by
   intro hw
   rw [Bool.eq_false_iff]
   intro hc
   obtain ⟨p,hp,rfl⟩:=List.mem_map.1 (List.contains_iff_mem.1 hc)
   have hg:=List.all_eq_true.1 hfl p hp
   simp only [hoj,Bool.and_eq_true] at hg
   unfold wantedA at hw
   split at hw
   ·simp at hw
   ·rename_i hgu;rw [hgu] at hg;simp at hg
  have hno:(fl.map (·.1)).contains j=false→∀ H,appF (fun i=>(listed.setIfInBounds j true).getD i false) fl H=appF (fun i=>listed.getD i false) fl H:=by
   intro hc H
   refine appF_congr fun p hp=>hset p hp fun e=>?_
   have:j∈fl.map (·.1):=e ▸ List.mem_map_of_mem hp
   rw [←List.contains_iff_mem,hc] at this;cases this
  split at hj2
  ·exact hj2.elim
  ·rename_i hw
   rw [wantedA_sound hE hw]
   simp only [Bool.false_eq_true,if_false]
   exact ⟨fun _ _=>trivial,hrec _ _ _ _ _ (by rw [hno (hnf hw)];exact hX) (hE.put (v:=.tuple []) hlt ⟨#[],rfl,rfl⟩) hj2⟩
  ·rename_i hw
   rw [wantedA_sound hE hw,if_pos rfl]
   split at hj2
   ·rename_i he
    obtain ⟨v,H1,g1,_,g3⟩:=hj2
    have hnc:(fl.map (·.1)).contains j=false:=by
     rw [Bool.eq_false_iff]
     intro hc
     obtain ⟨p,hp,rfl⟩:=List.mem_map.1 (List.contains_iff_mem.1 hc)
     have hg:=List.all_eq_true.1 hfl p hp
     simp only [Bool.and_eq_true,Bool.not_eq_true'] at hg
     rw [hg.1] at he;cases he
    unfold flD at g1
    simp only [hnc,Bool.false_eq_true,if_false] at g1
    refine (step_sound hX.inv hE (g1 _ hok) fun x v' K' w' H' h1 h2 h3=>?_)
    obtain ⟨rfl,rfl⟩:=h3
    exact hrec _ _ _ _ _ (by rw [hno hnc];exact hX.trans h1) ((hE.step h1.step).put hlt h2) g3
   ·obtain ⟨v,g1,_,g3⟩:=hj2
    unfold flD at g1
    split at g1
    ·obtain ⟨_,g1⟩:=g1
     refine (step_sound hX.inv hE (g1 _ hok) fun x v' K' w' H' h1 h2 h3=>?_)
     obtain ⟨rfl,rfl⟩:=h3
     refine hrec _ _ _ _ _ ?_ ((hE.step h1.step).put hlt h2) g3
     rw [appF_congr (ρ:=fun i=>if i=j then true else listed.getD i false) (fun p hp=>?_)]
     ·exact hX.trans h1
     ·by_cases hpj:p.1=j
      ·rw [hpj,if_pos rfl];exact hsj
      ·rw [if_neg hpj];exact hset p hp hpj
    ·rename_i hnc
     refine (step_sound hX.inv hE (g1 _ hok) fun x v' K' w' H' h1 h2 h3=>?_)
     obtain ⟨rfl,rfl⟩:=h3
     exact hrec _ _ _ _ _ (by rw [hno (by simpa using hnc)];exact hX.trans h1) ((hE.step h1.step).put hlt h2) g3
theorem holes_ext {K:KW} {w:World}:∀ (n:Nat) {H:AHeap},Inv K w H→Ext K w H K w (holes n H)
 | 0,_,hI=>.refl hI
 | n+1,_,hI=>(Ext.hole hI).trans (holes_ext n (Ext.hole hI).inv)
end
end Go.Abs
namespace Go.Abs
open Go
inductive AExit where
 | normal
 | exit (id:Nat)
 | ret
def AExit.out:AExit→Exit
 | .normal=>.normal
 | .exit id=>.exit id
 | .ret=>.ret
structure Weak (n0:Nat) (env:Env) (H:AHeap) (env2:Env) (H2:AHeap):Prop where
 reset:Reset H H2
 base:n0≤H2.next
 env:∀ t,Wk (env t) (env2 t)∧(env2 t).low H2.next
def Env.ofL:List (Nat × AV)→Env
 | []=>fun _=>.undef
 | (d,v)::l=>fun t=>if t=d then v else Env.ofL l t
section
variable (P:Program) (md:Nat→Mode) (n0:Nat) (L:List Nat)
def aRegion (ops:Array Oper) (draw:Bool) (Q:Env→AHeap→Prop) (env:Env) (H:AHeap):Prop :=
 match draw with
 | false=>aOps P md ops (fun env H=>Q (Env.ofL (L.map fun t=>(t,env t))) H) ops.toList env H
 | true=>(∃ eff W,drawOk ops eff W=true∧aLex P md ops eff W (fun env H=>Q (Env.ofL (L.map fun t=>(t,env t))) H) ops.toList 0 [] [] env H) ∨
   gDraw P md ops (fun env H=>Q (Env.ofL (L.map fun t=>(t,env t))) H) env H
def awp:Code→(AExit→Env→AHeap→Prop)→Env→AHeap→Prop
 | .skip,Q,env,H=>Q .normal env H
 | .region _ ops draw,Q,env,H=>aRegion P md L ops draw (Q .normal) env H
 | .seq a b,Q,env,H=>awp a (fun e env H=>match e with | .normal=>awp b Q env H | .exit i=>Q (.exit i) env H | .ret=>Q .ret env H) env H
 | .cond c a b,Q,env,H=>(match aeval env c with | .v (.bool t)=>(if t then awp a Q env H else awp b Q env H) | _=>False)
 | .block id b,Q,env,H=>awp b (fun e env H=>match e with | .normal=>Q .normal env H | .exit i=>(if i=id then Q .normal env H else Q (.exit i) env H) | .ret=>Q .ret env H) env H
 | .loop b,Q,env,H=>∃ (I:Nat→Env→AHeap→Prop),(∃ m env2 H2,Weak n0 env H env2 H2∧I m env2 H2) ∧
   ∀ m env H,I m env H→awp b (fun e env' H'=>match e with
    | .normal=>∃ k env2 H2,Weak n0 env' H' env2 H2∧k < m∧I k env2 H2
    | .exit i=>Q (.exit i) env' H'
    | .ret=>Q .ret env' H') env H
 | .exit id,Q,env,H=>Q (.exit id) env H
 | .ret,Q,env,H=>Q .ret env H
 | .rangeFunc f ps x y,Q,env,H=>(match aeval env f with
  | .fn g caps=>ACallsR P g (.yld H.next::caps) (H.alloc (.lrec ⟨env,ps,x,y⟩ .ready)) (fun _ H'=>match H'.get H.next with
   | some (.lrec _ .ready)=>Q .normal env (H'.upd H.next .gone)
   | some (.lrec _ (.exit i))=>Q (.exit i) env (H'.upd H.next .gone)
   | some (.lrec _ .ret)=>Q .ret env (H'.upd H.next .gone)
   | _=>False)
  | _=>False)
 | _,_,_,_=>False
end
theorem wpIn_loop' {F:Fence} {n:Nat} {P:Program} {Q:Exit→Act→World→Prop} {a:Act} {w:World} {c:Code} (R:Nat→Act→World→Prop) (m:Nat) (h₀:R m a w)
  (round:∀ m a w,R m a w→c.wpIn F n P (Exit.then (fun a' w'=>∃ k,k < m∧R k a' w') Q) a w):(Code.loop c).wpIn F n P Q a w:=by
 intro b k cs hro hb hr
 have key:∀ j a w,R j a w→∃ e a' w',Q e a' w'∧ArrivesIn (Machine.fenced P F) P (lone (b.atR a (.code c::.inLoop c::k)) cs w) b k cs e a' w':=by
  intro j
  induction j using Nat.strongRecOn with
  | _ j ih =>
   intro a w hI
   obtain ⟨e,a₁,w₁,hq,harr⟩:=round j a w hI b (.inLoop c::k) cs hro hb hr
   cases e with
   | normal =>
    obtain ⟨m,hlt,hI₁⟩:=hq
    obtain ⟨e₂,a₂,w₂,hq₂,harr₂⟩:=ih m hlt a₁ w₁ hI₁
    exact ⟨e₂,a₂,w₂,hq₂,.of_steps (StepsIn.trans harr (.one (fenced_calm hb hr rfl) stepR_inLoop)) harr₂⟩
   | exit id=>exact ⟨_,a₁,w₁,hq,.pass (x:=.inLoop c) rfl (fun _ _=>.inl (by simp)) harr⟩
   | goto l=>exact ⟨_,a₁,w₁,hq,.pass (x:=.inLoop c) rfl (fun _ _=>.inl (by simp)) harr⟩
   | ret=>exact ⟨_,a₁,w₁,hq,.pass (x:=.inLoop c) rfl (fun _ _=>.inl (by simp)) harr⟩
   | panic ch=>exact ⟨_,a₁,w₁,hq,.pass (x:=.inLoop c) rfl (fun _ _=>.inl (by simp)) harr⟩
   | outgrown=>exact ⟨_,a₁,w₁,hq,.pass (x:=.inLoop c) rfl (fun _ _=>.inl (by simp)) harr⟩
 obtain ⟨e,a',w',hq,harr⟩:=key m a w h₀
 exact ⟨e,a',w',hq,.of_steps (.one (fenced_calm hb hr rfl) stepR_loop) harr⟩
def Marks (b0:Nat) (K:KW) (w:World) (H:AHeap) (ds:List Deferred):Prop :=
 ∃ rs:List Nat,rs.Nodup∧ds=rs.map (fun r=>{ target:=.collected r,args:=#[] })∧∀ r∈rs,b0≤r∧w.heap[r]?=some (.deferred (some []))∧¬ Touch K H r
theorem Marks.ext {b0:Nat} {K K':KW} {w w':World} {H H':AHeap} {ds:List Deferred} (h:Marks b0 K w H ds) (x:Ext K w H K' w' H'):Marks b0 K' w' H' ds:=by
 obtain ⟨rs,h1,h2,h3⟩:=h
 refine ⟨rs,h1,h2,fun r hr=>?_⟩
 obtain ⟨g1,g2,g3⟩:=h3 r hr
 have hlt:r < w.heap.size:=(Array.getElem?_eq_some_iff.1 g2).1
 refine ⟨g1,by rw [x.frame r hlt g3];exact g2,fun ht=>?_⟩
 rcases x.within r ht with h | h
 ·exact g3 h
 ·omega
theorem Touch.reset {K:KW} {H H2:AHeap} {n b:Nat} (h:Reset H H2) (ht:Touch (K.cut n) H2 b):Touch K H b:=by
 obtain ⟨i,B,h1,h2⟩:=ht
 obtain ⟨h3,h4,A,h5,h6⟩:=h.get i B h1
 refine ⟨i,A,h5,?_⟩
 rcases h2 with h2 | ⟨len,esz,x,ad,cap,rfl,h8,h9⟩
 ·left
  simp only [KW.cut] at h2
  split at h2
  ·exact h2
  ·cases h2
 ·right
  simp only [KW.cut] at h8
  split at h8
  ·cases A <;> simp only [WkB] at h6 <;> first | exact h6.elim | exact ⟨_,_,_,ad,cap,by rw [h6.1,h6.2.1],h8,h9⟩
  ·cases h8
theorem Marks.reset {b0:Nat} {K:KW} {w:World} {H H2:AHeap} {n:Nat} {ds:List Deferred} (h:Marks b0 K w H ds) (hr:Reset H H2):Marks b0 (K.cut n) w H2 ds:=by
 obtain ⟨rs,h1,h2,h3⟩:=h
 exact ⟨rs,h1,h2,fun r hr'=>⟨(h3 r hr').1,(h3 r hr').2.1,fun ht=>(h3 r hr').2.2 (ht.reset hr)⟩⟩
theorem Ext.free {K:KW} {w w':World} {H:AHeap} (hI:Inv K w H) (hs:w.heap.size≤w'.heap.size) (hh:∀ b,b < w.heap.size→w'.heap[b]?=w.heap[b]?) (ho:w'.os=w.os) (ht:w'.tape=w.tape) (hp:w'.output=w.output):Ext K w H K w' H:=by
 have st:Step K w K w':=⟨.refl K,fun b o hb=>cell_of_heap (hh b (hI.imLt b o hb)) _ _,hs,fun b hb=>shape_of_heap (hh b hb),ho,ht,hp⟩
 refine ⟨st,Nat.le_refl _,.of_others hh,fun b hb _=>hh b hb,fun b hb=>.inl hb,?_⟩
 exact {
     ioLt:=fun i b h=>⟨(hI.ioLt i b h).1,Nat.lt_of_lt_of_le (hI.ioLt i b h).2 hs⟩,ioInj:=hI.ioInj,ioIm:=hI.ioIm,imLt:=fun b o h=>Nat.lt_of_lt_of_le (hI.imLt b o h) hs,
     thLt:=fun t e r h=>⟨(hI.thLt t e r h).1,fun ad had=>Nat.lt_of_lt_of_le ((hI.thLt t e r h).2 ad had) hs⟩,thLe:=hI.thLe,bnLt:=hI.bnLt,
     blk:=fun i B hB=>⟨(hI.blk i B hB).1,BlkOk.keep st (fun b hb=>hh b (hI.ioLt i b hb).2) (fun _ _ h=>h) (fun h=>h) (fun len esz x ad cap e hth=>by
      subst e
      obtain ⟨a0,cap0,q1,q2,q3,q4⟩:=(hI.blk i _ hB).2
      obtain ⟨rfl,rfl⟩:a0=some ad∧cap0=cap:=by rw [hth] at q1;simpa [eq_comm] using q1
      exact ⟨hh _ ((hI.thLt i len _ hth).2 ad rfl),fun _ _ h=>h,(q4 ad rfl).2.2.2.2⟩) (hI.blk i B hB).2⟩,
     tokInj:=hI.tokInj }
theorem Touch.lt {K:KW} {w:World} {H:AHeap} {b:Nat} (h:Touch K H b) (hI:Inv K w H):b < w.heap.size:=by
 obtain ⟨i,B,h1,h2 | ⟨len,esz,x,ad,cap,rfl,h3,rfl⟩⟩:=h
 ·exact (hI.ioLt _ _ h2).2
 ·exact (hI.thLt _ _ _ h3).2 ad rfl
theorem Ext.shut {K K':KW} {w w':World} {H H':AHeap} (hX:Ext K w H K' w' H') {r:Nat} (hr:w.heap.size≤r) (hd:w'.heap[r]?=some (.deferred (some []))) (hnt:¬ Touch K' H' r) :
  Ext K w H K' (w'.putObj r (.deferred none)) H'∧Step K' w' K' (w'.putObj r (.deferred none)):=by
 have hlt:r < w'.heap.size:=(Array.getElem?_eq_some_iff.1 hd).1
 have hsame:=World.putObj_heap_same (w:=w') (o:=.deferred none) hlt
 have hother:∀ k,k≠r→(w'.putObj r (.deferred none)).heap[k]?=w'.heap[k]?:=fun k hk=>World.putObj_heap_other hk
 have st:Step K' w' K' (w'.putObj r (.deferred none)):=by
  refine ⟨.refl K',fun b o hb=>?_,by rw [World.putObj_size];exact Nat.le_refl _,fun b hb=>?_,rfl,rfl,rfl⟩
  ·by_cases e:b=r
   ·subst e;simp only [World.cell?,hsame,hd]
   ·exact cell_of_heap (hother b e) _ _
  ·by_cases e:b=r
   ·subst e;simp only [World.shape?,hsame,hd]
   ·exact shape_of_heap (hother b e)
 have hI:=hX.inv
 refine ⟨⟨hX.step.trans st,hX.next,fun b o hb=>?_,fun b hb ht=>?_,hX.within,?_⟩,st⟩
 ·have hb':b < w.heap.size:=(Array.getElem?_eq_some_iff.1 hb).1
  have h:=hX.calm b o hb
  rw [hother b (by omega)];exact h
 ·rw [hother b (by omega)];exact hX.frame b hb ht
 ·exact {
      ioLt:=fun i b h=>⟨(hI.ioLt i b h).1,by rw [World.putObj_size];exact (hI.ioLt i b h).2⟩,ioInj:=hI.ioInj,ioIm:=hI.ioIm,imLt:=fun b o h=>by rw [World.putObj_size];exact hI.imLt b o h,
      thLt:=fun t e r h=>⟨(hI.thLt t e r h).1,fun ad had=>by rw [World.putObj_size];exact (hI.thLt t e r h).2 ad had⟩,thLe:=hI.thLe,bnLt:=hI.bnLt,
      blk:=fun i B hB=>⟨(hI.blk i B hB).1,BlkOk.keep st (fun b hb=>hother b (fun e=>hnt ⟨i,B,hB,.inl (e ▸ hb)⟩)) (fun _ _ h=>h) (fun h=>h) (fun len esz x ad cap e hth=>by
       subst e
       obtain ⟨a0,cap0,q1,q2,q3,q4⟩:=(hI.blk i _ hB).2
       obtain ⟨rfl,rfl⟩:a0=some ad∧cap0=cap:=by rw [hth] at q1;simpa [eq_comm] using q1
       exact ⟨hother _ (fun e=>hnt ⟨i,_,hB,.inr ⟨len,esz,x,ad,_,rfl,hth,e⟩⟩),fun _ _ h=>h,(q4 ad rfl).2.2.2.2⟩) (hI.blk i B hB).2⟩,
      tokInj:=hI.tokInj }
theorem leaves_marks {P:Program} {fn:Func} {tmps:Array Value} {R:Ending→World→Prop} {K:KW} {w:World} {H:AHeap} {K':KW} {H':AHeap} :
  ∀ (ds:List Deferred) (w':World),Ext K w H K' w' H'→Marks w.heap.size K' w' H' ds→(∀ w'',Ext K w H K' w'' H'→Step K' w' K' w''→∃ v,(results fn tmps).run P w''=.ok v w''∧R (.returned v) w'') →
   LeavesInM Fence.wide 0 P fn tmps R ds .returning w'
 | [],w',hX,_,h=>h w' hX (.refl K' w')
 | d::ds,w',hX,⟨rs,h1,h2,h3⟩,h=>by
  cases rs with
  | nil=>cases h2
  | cons r rs =>
   simp only [List.map_cons,List.cons.injEq] at h2
   obtain ⟨rfl,rfl⟩:=h2
   rw [List.nodup_cons] at h1
   obtain ⟨g1,g2,g3⟩:=h3 r (by simp)
   obtain ⟨hX2,st⟩:=hX.shut g1 g2 g3
   refine ⟨by simp,.inl ⟨r,_,rfl,run_takeDeferred g2,leaves_marks _ _ hX2 ⟨rs,h1.2,rfl,fun q hq=>?_⟩ fun w'' hX3 st3=>h w'' hX3 (st.trans st3)⟩⟩
   obtain ⟨k1,k2,k3⟩:=h3 q (by simp [hq])
   refine ⟨k1,?_,k3⟩
   rw [World.putObj_heap_other (k:=q) (r:=r) (fun e=>h1.1 (by rw [←e];exact hq))];exact k2
theorem Marks.nil (b0:Nat) (K:KW) (w:World) (H:AHeap):Marks b0 K w H []:=⟨[],by simp,rfl,by simp⟩
theorem ofL_get (L:List Nat) (env:Env) (t:Nat):Env.ofL (L.map fun t=>(t,env t)) t=env t∨Env.ofL (L.map fun t=>(t,env t)) t=.undef:=by
 induction L with
 | nil=>exact .inr rfl
 | cons d L ih =>
  simp only [List.map_cons,Env.ofL]
  by_cases h:t=d
  ·subst h;simp
  ·simp only [h,if_false];exact ih
theorem EnvOk.prune {K:KW} {w:World} {env:Env} {a:Act} {n:Nat} {ds:List Deferred} (h:EnvOk K w env a n ds) (L:List Nat):EnvOk K w (Env.ofL (L.map fun t=>(t,env t))) a n ds :=
 ⟨h.size,fun t=>by rcases ofL_get L env t with e | e <;> rw [e];exact h.rep t;trivial,h.defers⟩
theorem Weak.sound {K0 K:KW} {w0 w:World} {H0 H H2:AHeap} {env env2:Env} {a:Act} {n:Nat} {ds:List Deferred} (hI0:Inv K0 w0 H0) (hX:Ext K0 w0 H0 K w H) (hE:EnvOk K w env a n ds) (hw:Weak H0.next env H env2 H2) :
  Ext K0 w0 H0 (K.cut H2.next) w H2∧EnvOk (K.cut H2.next) w env2 a n ds :=
 ⟨Ext.reset hI0 hX hw.reset hw.base,hE.size,fun t=>Rep.cut _ _ (hw.env t).2 ((hw.env t).1 K w _ (hE.rep t)),hE.defers⟩
section
variable {P:Program} {md:Nat→Mode} {L:List Nat} {n:Nat} {K0:KW} {w0:World} {H0:AHeap}
theorem awp_sound {ro:Option Nat} (hm:P.follows .mixedOrders=true) (hI0:Inv K0 w0 H0) (hro:∀ l,ro=some l→∃ q,w0.heap[l]?=some (.loop q)):∀ (c:Code),okCode n c=true→∀ (Q:AExit→Env→AHeap→Prop) (Qc:Exit→Act→World→Prop),
  (∀ e K w H env a ds,Ext K0 w0 H0 K w H→EnvOk K w env a n ds→Marks w0.heap.size K w H ds→Q e env H→Qc e.out a w) →
  ∀ K w H env a ds,Ext K0 w0 H0 K w H→EnvOk K w env a n ds→Marks w0.heap.size K w H ds→awp P md H0.next L c Q env H→c.wpIn (fenceR ro) 0 P Qc a w:=by
 intro c
 induction c with
 | skip=>intro _ Q Qc hQ K w H env a ds hX hE hM h;exact wpIn_skip (hQ .normal K w H env a ds hX hE hM h)
 | region id ops draw =>
  intro hok Q Qc hQ K w H env a ds hX hE hM h
  have hd:∀ o∈ops.toList,∀ t,o.dst=some t→t < n:=by
   intro o ho t ht
   simp only [okCode,List.all_eq_true] at hok
   have:=hok o ho
   rw [ht] at this
   simpa [Nat.blt_eq] using this
  have hQ':∀ K' w' H' env' a',Ext K w H K' w' H'→EnvOk K' w' env' a' n ds→Q .normal (Env.ofL (L.map fun t=>(t,env' t))) H'→Qc .normal a' w':=fun K' w' H' env' a' hX' hE' h=>hQ .normal K' w' H' _ a' ds (hX.trans hX') (hE'.prune L) (hM.ext hX') h
  cases draw with
  | false =>
   refine wpIn_region ?_
   have:=aOps_sound (ro:=ro) (md:=md) hd hQ' ops.toList 0 K w H env a (fun j=>by simp) (.refl hX.inv) hE h
   rw [List.range_eq_range']
   simpa using this
  | true =>
   have h2:=h
   obtain ⟨eff,W,hok'⟩:∃ eff W,drawOk ops eff W=true:=by
    rcases h with ⟨eff,W,h,_⟩ | ⟨_,_,eff,W,h,_⟩
    ·exact ⟨eff,W,h⟩
    ·exact ⟨eff,W,h⟩
   have hB:=(tabOk_of hok').2
   clear hok'
   have hs:SameMem w { w with drawn:=w.drawn+1 }:=⟨rfl,rfl,rfl,rfl⟩
   have hX':Ext K w H K { w with drawn:=w.drawn+1 } H:=Ext.same hs hX.inv
   have hE':=hE.step (hs.step K)
   refine wpIn_region_any hm ?_
   have hlex:Region.lexFrom .any ops ops.toList.length 0 (Array.replicate ops.size false)=true:=by
    simp only [Region.lexB,Bool.and_eq_true] at hB
    simpa using hB.2
   have hcl0:Cl ops (Array.replicate ops.size false):=fun m o _ hm=>by
    rw [Array.getD_eq_getD_getElem?,Array.getElem?_replicate] at hm
    split at hm <;> simp at hm
   clear h
   rcases h2 with ⟨eff,W,hok',h⟩ | ⟨m,fl,eff,W,hok',hfl,h⟩
   ·have hany:=aAny_lex (tabOk_of hok').1 ops.toList 0 (Array.replicate ops.size false) [] [] env H (fun j=>by simp) (fun _ _ _=>Nat.zero_le _) hcl0 hlex h
    have:=aAny_sound (ro:=ro) (md:=md) hd hQ' _ _ _ _ K _ H env a hX' hE' hany
    simpa using this
   ·have hfs:∀ i∈fl.map (·.1),i < ops.size:=by
     intro i hi
     obtain ⟨p,hp,rfl⟩:=List.mem_map.1 hi
     have hg:=List.all_eq_true.1 hfl p hp
     rcases Nat.lt_or_ge p.1 ops.size with h' | h'
     ·exact h'
     ·simp [Array.getElem?_eq_none h'] at hg
    have hany:=gAny_lex flD_ok (tabOk_of hok').1 hfs ops.toList 0 (Array.replicate ops.size false) [] [] env _ (fun j=>by simp) (by simp) (fun _ _ _=>Nat.zero_le _) hcl0 hlex h
    have hE2:=holes_ext m hX'.inv
    have hz:appF (fun i=>(Array.replicate ops.size false).getD i false) fl (holes m H)=holes m H:=by
     rw [appF_congr (ρ:=fun _=>false) (fun p _=>by
      show (Array.replicate ops.size false).getD p.1 false=false
      rw [Array.getD_eq_getD_getElem?,Array.getElem?_replicate];split <;> rfl)]
     generalize holes m H=G
     clear hany hE2 hfs hfl h
     induction fl generalizing G with
     | nil=>rfl
     | cons p fl ih=>obtain ⟨j,φ⟩:=p;simp only [appF,Bool.false_eq_true,if_false];exact ih G
    have:=gAny_sound (ro:=ro) (md:=md) hfl hd hQ' _ _ _ _ K _ (holes m H) env a (by simp) hcl0 (by rw [hz];exact hX'.trans hE2) hE' hany
    simpa using this
 | seq x y ihx ihy =>
  intro hok Q Qc hQ K w H env a ds hX hE hM h
  simp only [okCode,Bool.and_eq_true] at hok
  refine wpIn_seq (ihx hok.1 _ _ ?_ K w H env a ds hX hE hM h)
  intro e K w H env a ds hX hE hM h
  cases e with
  | normal=>exact ihy hok.2 Q Qc hQ K w H env a ds hX hE hM h
  | exit i=>exact hQ (.exit i) K w H env a ds hX hE hM h
  | ret=>exact hQ .ret K w H env a ds hX hE hM h
 | cond c x y ihx ihy =>
  intro hok Q Qc hQ K w H env a ds hX hE hM h
  simp only [okCode,Bool.and_eq_true] at hok
  simp only [awp] at h
  split at h
  ·rename_i t ht
   have hc:=hE.eval c
   rw [ht] at hc
   refine wpIn_cond (t:=t) hc ?_
   cases t with
   | true=>exact ihx hok.1 Q Qc hQ K w H env a ds hX hE hM h
   | false=>exact ihy hok.2 Q Qc hQ K w H env a ds hX hE hM h
  ·exact h.elim
 | block id b ih =>
  intro hok Q Qc hQ K w H env a ds hX hE hM h
  refine wpIn_block (ih hok _ _ ?_ K w H env a ds hX hE hM h)
  intro e K w H env a ds hX hE hM h
  cases e with
  | normal=>exact hQ .normal K w H env a ds hX hE hM h
  | exit i =>
   simp only [Exit.inBlock,AExit.out]
   simp only at h
   by_cases hi:i=id
   ·subst hi;rw [if_pos rfl];rw [if_pos rfl] at h;exact hQ .normal K w H env a ds hX hE hM h
   ·rw [if_neg hi];rw [if_neg hi] at h;exact hQ (.exit i) K w H env a ds hX hE hM h
  | ret=>exact hQ .ret K w H env a ds hX hE hM h
 | loop b ih =>
  intro hok Q Qc hQ K w H env a ds hX hE hM h
  obtain ⟨I,⟨m,env2,H2,hw,hI⟩,hround⟩:=h
  obtain ⟨g1,g2⟩:=hw.sound hI0 hX hE
  refine wpIn_loop' (fun m a w=>∃ K H env ds,Ext K0 w0 H0 K w H∧EnvOk K w env a n ds∧Marks w0.heap.size K w H ds∧I m env H) m ⟨_,_,_,_,g1,g2,hM.reset hw.reset,hI⟩ ?_
  rintro m a w ⟨K,H,env,ds,hX,hE,hM,hI⟩
  refine ih hok _ _ ?_ K w H env a ds hX hE hM (hround m env H hI)
  intro e K w H env a ds hX hE hM h
  cases e with
  | normal =>
   obtain ⟨k,env2,H2,hw,hk,hI⟩:=h
   obtain ⟨g1,g2⟩:=hw.sound hI0 hX hE
   exact ⟨k,hk,_,_,_,_,g1,g2,hM.reset hw.reset,hI⟩
  | exit i=>exact hQ (.exit i) K w H env a ds hX hE hM h
  | ret=>exact hQ .ret K w H env a ds hX hE hM h
 | exit id=>intro _ Q Qc hQ K w H env a ds hX hE hM h;exact wpIn_exit (hQ (.exit id) K w H env a ds hX hE hM h)
 | ret=>intro _ Q Qc hQ K w H env a ds hX hE hM h;exact wpIn_ret (hQ .ret K w H env a ds hX hE hM h)
 | rangeFunc f ps x y _ _ =>
  intro hok Q Qc hQ K w H env a ds hX hE hM h
  simp only [okCode] at hok
  simp only [awp] at h
  split at h
  rotate_left
  ·exact h.elim
  rename_i g caps hg
  have hf:=hE.eval f
  rw [hg] at hf
  obtain ⟨cs,hv,hcs⟩:=hf
  obtain ⟨⟨fn',hfn,hname,hbody⟩,h⟩:=h
  refine wpIn_rangeFunc fun fid _=>?_
  obtain ⟨l,mark,w1,wd,q,hen,hl,hw1,hXd,hps,has,hbo,htm,hst,hpe,hMd⟩:∃ (l:Nat) (mark:List Deferred) (w1 wd:World) (q:Loop),(Instr.enterLoop fid a.tmps ps x y (fenceR ro).round).run P w=.ok (l,mark) w1∧l=wd.heap.size∧w1=wd.alloc (.loop q)∧Ext K w H K wd H ∧
    q.params=ps∧q.assign=x∧q.body=y∧q.tmps=a.tmps∧q.state=.ready∧q.pending=none∧Marks w0.heap.size K wd H (mark++ds):=by
   cases ro with
   | none =>
    have hfr:Ext K w H K (w.alloc (.deferred (some []))) H:=Ext.free hX.inv (by simp) (fun b hb=>(Add.alloc w _).others b hb) rfl rfl rfl
    refine ⟨_,_,_,w.alloc (.deferred (some [])),_,run_enterLoop_outer fid a.tmps ps x y,by simp,rfl,hfr,rfl,rfl,rfl,rfl,rfl,rfl,?_⟩
    have hM2:=hM.ext hfr
    obtain ⟨rs,h1,h2,h3⟩:=hM2
    have hnt:¬ Touch K H w.heap.size:=fun ht=>by
     have:=ht.lt hX.inv;omega
    refine ⟨w.heap.size::rs,?_,by rw [h2];rfl,fun r hr=>?_⟩
    ·rw [List.nodup_cons]
     refine ⟨fun hr=>?_,h1⟩
     obtain ⟨rs',g1,g2,g3⟩:=hM
     have e:rs=rs':=by
      have:=h2.symm.trans g2
      exact (List.map_inj_right (fun a b h=>by simpa using h)).1 this
     subst e
     have:=(Array.getElem?_eq_some_iff.1 (g3 _ hr).2.1).1
     omega
    ·rcases List.mem_cons.1 hr with rfl | hr
     ·exact ⟨hX.step.size,(Add.alloc w _).at_,hnt⟩
     ·exact h3 r hr
   | some l0 =>
    obtain ⟨q0,hq0⟩:=hro l0 rfl
    obtain ⟨q1,hq1⟩:=(hX.calm l0 _ hq0).2 q0 rfl
    exact ⟨_,_,_,w,_,run_enterLoop_inner hq1 fid a.tmps ps x y,rfl,rfl,.refl hX.inv,rfl,rfl,rfl,rfl,rfl,rfl,by simpa using hM⟩
  subst hl hw1
  have hA:=Add.alloc wd (.loop q)
  have hId:=hXd.inv
  have hle:KLe K (K.addIo H.next wd.heap.size):=⟨fun i b h=>by
   simp only [KW.addIo];rw [if_neg (fun (e:i=H.next)=>by have:=(hId.ioLt i b h).1;omega)];exact h,fun _ _ h=>h,fun _ _ _ h=>h,fun _ _ _ h=>h⟩
  have hse:=(Add.step hId hA hle).settled
  have hE2:=hE.step hXd.step
  have hE1:Ext K wd H (K.addIo H.next wd.heap.size) (wd.alloc (.loop q)) (H.alloc (.lrec ⟨env,ps,x,y⟩ .ready)):=Ext.new hId hA rfl rfl rfl (fun _ _ _=>rfl) (by simp)
   ⟨wd.heap.size,q,by simp [KW.addIo],hA.at_,hps,has,hbo,by rw [htm,hE.size];exact hok,⟨hst,hpe⟩,fun t=>by rw [htm];exact (hE2.rep t).mono hle hse⟩
  have hK1:(K.addIo H.next wd.heap.size).io H.next=some wd.heap.size:=by simp [KW.addIo]
  have hcs2:=(hcs.mono hXd.step.le hXd.step.settled).mono hle hse
  have hcall:=h _ _ (#[.func (.yield wd.heap.size) #[] #[]]++cs) hE1.inv (by
   rw [Array.toList_append]
   exact ⟨_,_,rfl,⟨_,hK1,rfl⟩,hcs2⟩)
  obtain ⟨d,hd1,hd2⟩:∃ d:Deferred,(resolve a.eval (rangeCall f wd.heap.size) 0).run P (wd.alloc (.loop q))=.ok d (wd.alloc (.loop q))∧(invoke d.target d.args).run P (wd.alloc (.loop q))=.ok (.enter g (#[.func (.yield wd.heap.size) #[] #[]]++cs)) (wd.alloc (.loop q)):=by
   have hb:fn'.body≠none:=by cases hz:fn'.body <;> simp_all
   simp [resolve,hv,Deferred.ofValue,invoke,callFunc,Sem.run_bind,hfn,hb,hname]
   rfl
  refine ⟨_,mark,_,d,_,g,_,_,hen,hd1,fun _ _=>trivial,hd2,fun hh=>by simp [Fence.wide] at hh,?_⟩
  refine CallsIn.mono (F:=fenceR ro) (n:=0 - 1) (show CallsIn (fenceR ro) (0 - 1) P g _ _ _ from (callsIn_wide (n:=0 - 1)).2 hcall) ?_
  rintro e w3 ⟨K3,v,x3,H3,rfl,hX3,hv3,hR⟩
  have hXX:Ext K0 w0 H0 K3 w3 H3:=hX.trans (hXd.trans (hE1.trans hX3))
  have hM3:=(hMd.ext hE1).ext hX3
  have hE3:EnvOk K3 w3 env { a with defers:=mark++a.defers } n (mark++ds):=⟨hE.size,fun t=>((hE2.step hE1.step).step hX3.step).rep t,by rw [hE.defers]⟩
  have hio3:K3.io H.next=some wd.heap.size:=hX3.step.le.io _ _ hK1
  have key:∀ r st,H3.get H.next=some (.lrec r st)→st≠.busy→∃ q3 w4,(Instr.endLoop wd.heap.size).run P w3=.ok q3.pending w4∧LStOk st q3∧Ext K3 w3 H3 K3 w4 (H3.upd H.next .gone):=by
   intro r st hget hnb
   obtain ⟨_,b,q3,g1,g2,_,_,_,_,g7,_⟩:=hXX.inv.blk _ _ hget
   obtain rfl:b=wd.heap.size:=by rw [hio3] at g1;simpa using g1.symm
   have hlt:wd.heap.size < w3.heap.size:=(Array.getElem?_eq_some_iff.1 g2).1
   have hb:q3.state≠.busy:=by cases st <;> simp only [LStOk] at g7 <;> simp_all
   have hc:Chg w3 (w3.putObj wd.heap.size (.loop { q3 with state:=.exhausted })) wd.heap.size (.loop { q3 with state:=.exhausted }) :=
    ⟨World.putObj_size,World.putObj_heap_same hlt,fun k hk=>World.putObj_heap_other hk,rfl,rfl,rfl⟩
   refine ⟨q3,_,run_endLoop g2 hb,g7,Ext.write hXX.inv hio3 hget g2 hc ?_ (by simp) (by simp) trivial ⟨fun h=>(nomatch h),fun q' h=>⟨_,rfl⟩⟩⟩
   simp only [World.shape?,hc.at_,g2]
  split at hR
  ·rename_i r hget
   obtain ⟨q3,w4,k1,k2,k3⟩:=key r _ hget (by simp)
   refine ⟨_,w4,k1,?_⟩
   rw [k2.2]
   exact hQ .normal K3 w4 _ env _ _ (hXX.trans k3) (hE3.step k3.step) (hM3.ext k3) hR
  ·rename_i r i hget
   obtain ⟨q3,w4,k1,k2,k3⟩:=key r _ hget (by simp)
   refine ⟨_,w4,k1,?_⟩
   rw [k2.2]
   exact wpIn_exit (hQ (.exit i) K3 w4 _ env _ _ (hXX.trans k3) (hE3.step k3.step) (hM3.ext k3) hR)
  ·rename_i r hget
   obtain ⟨q3,w4,k1,k2,k3⟩:=key r _ hget (by simp)
   refine ⟨_,w4,k1,?_⟩
   rw [k2.2]
   exact wpIn_ret (hQ .ret K3 w4 _ env _ _ (hXX.trans k3) (hE3.step k3.step) (hM3.ext k3) hR)
  ·exact hR.elim
 | _=>intro _ Q Qc hQ K w H env a ds hX hE hM h;exact h.elim
end
def aResult (P:Program) (env:Env) (H:AHeap):ResultVar→Option AV
 | .tmp t=>some (env t)
 | .cell a t=>match rdT P t,env a with
  | some k,.ref id off=>(match H.get id with | some (.cells l)=>readC k (l.drop off) | _=>none)
  | _,_=>none
def aResults (P:Program) (env:Env) (H:AHeap) (rs:List ResultVar):Option AV :=
 match rs.mapM (aResult P env H) with
 | some [v]=>some v
 | some vs=>some (.tuple vs)
 | none=>none
def aRet (P:Program) (n0:Nat) (rs:List ResultVar) (R:AV→AHeap→Prop) (env:Env) (H:AHeap):Prop :=
 ∃ v0 v H2,aResults P env H rs=some v0∧Wk v0 v∧v.low H2.next∧Reset H H2∧n0≤H2.next∧R v H2
def aEnd (P:Program) (n0:Nat) (rs:List ResultVar) (R:AV→AHeap→Prop) (e:AExit) (env:Env) (H:AHeap):Prop :=
 match e with
 | .exit _=>False
 | _=>aRet P n0 rs R env H
def Env.args (as:List AV):Env:=fun t=>(as[t]?).getD .undef
section
variable {P:Program} {K:KW} {w:World} {H:AHeap}
def resRun (tmps:Array Value):ResultVar→Sem Value
 | .tmp t=>pure (tmps.getD t undef)
 | .cell a t=>do loadVar t (←asAddr (tmps.getD a undef))
theorem results_eq (fn:Func) (tmps:Array Value):results fn tmps=(do let vs ←fn.results.mapM (resRun tmps);pure (if h:vs.size=1 then vs[0] else .tuple vs)):=by
 unfold results
 congr 2
theorem result_run (hI:Inv K w H) {env:Env} {a:Act} {n:Nat} {ds:List Deferred} (hE:EnvOk K w env a n ds) {r:ResultVar} {v:AV} (h:aResult P env H r=some v) :
  ∃ x,(resRun a.tmps r).run P w=.ok x w∧Rep K w v x:=by
 cases r with
 | tmp t =>
  simp only [aResult,Option.some.injEq] at h
  subst h
  exact ⟨_,rfl,hE.rep t⟩
 | cell c t =>
  simp only [aResult] at h
  split at h
  ·rename_i k id off hk he
   have hr:=hE.rep c
   rw [he] at hr
   obtain ⟨b,hb,hv⟩:=hr
   split at h
   ·rename_i l hl
    obtain ⟨b',cc,e,h1,h2,pre,rest,h3,h4⟩:=blk_cells hI hl
    obtain rfl:b=b':=by rw [hb] at h1;simpa using h1
    have hcs:=(CellsAt.of_block h2 0)
    rw [List.drop_zero,h3] at hcs
    have hcs2:=(hcs.pre).drop off
    rw [Nat.zero_add] at hcs2
    obtain ⟨y,hy,hr⟩:=load_cells (P:=P) hk hcs2 (h4.drop off) h
    exact ⟨y,by simp only [resRun,hv,asAddr,Sem.run_bind,Sem.run_pure,Result.andThen_ok,hy],hr⟩
   ·cases h
  ·cases h
theorem results_run (hI:Inv K w H) {env:Env} {a:Act} {n:Nat} {ds:List Deferred} (hE:EnvOk K w env a n ds):∀ {rs:List ResultVar} {vs:List AV},rs.mapM (aResult P env H)=some vs →
  ∃ xs:List Value,(rs.mapM (resRun a.tmps)).run P w=.ok xs w∧RepL K w vs xs
 | [],vs,h=>by simp only [List.mapM_nil] at h;cases h;exact ⟨[],rfl,rfl⟩
 | r::rs,vs,h=>by
  rw [List.mapM_cons] at h
  cases hr:aResult P env H r with
  | none=>simp [hr] at h
  | some v =>
   cases hrs:rs.mapM (aResult P env H) with
   | none=>simp [hr,hrs] at h
   | some vs' =>
    simp only [hr,hrs] at h
    cases h
    obtain ⟨x,h1,h2⟩:=result_run hI hE hr
    obtain ⟨xs,h3,h4⟩:=results_run hI hE hrs
    refine ⟨x::xs,?_,x,xs,rfl,h2,h4⟩
    rw [List.mapM_cons,Sem.run_bind,h1,Result.andThen_ok,Sem.run_bind,h3]
    rfl
theorem acalls_of_awp {f : FuncId} {fn : Func} {c : Code} {args : List AV} {R : AV → AHeap → Prop} (md : Nat → Mode) (L : List Nat) (hm : P.follows .mixedOrders = true) (hf : P.funcs[f]? = some fn) (hb : fn.body = some c) (hn : fn.name ≠ "runtime.NumGoroutine")
  (hargs:args.length≤fn.ntmps) (hok:okCode fn.ntmps c=true) (h:H.Closed→lowL H.next args→awp P md H.next L c (aEnd P H.next fn.results.toList R) (Env.args args) H):ACallsR P f args H R:=by
 refine ⟨⟨fn,hf,hn,by rw [hb];rfl⟩,fun K w cargs hI ha=>callsIn_wide (n:=0).1 (callsIn_of_wp_marks hf hb trivial ?_)⟩
 have hlen:args.length=cargs.size:=by rw [ha.length];simp
 have hE:EnvOk K w (Env.args args) ⟨cargs++Array.replicate (fn.ntmps - cargs.size) undef,[]⟩ fn.ntmps []:=by
  refine ⟨by simp;omega,fun t=>?_,rfl⟩
  simp only [Env.args]
  by_cases ht:t < args.length
  ·obtain ⟨x,hx,hr⟩:=ha.get (i:=t) (a:=args[t]) (by simp [ht])
   have hx':cargs[t]?=some x:=by simpa using hx
   have htc:t < cargs.size:=by omega
   rw [Array.getD_eq_getD_getElem?,Array.getElem?_append_left htc,hx']
   simpa [ht] using hr
  ·rw [List.getElem?_eq_none (by omega)];trivial
 have hcl:=hI.closed
 have hlow:lowL H.next args:=ha.low (fun i b hb=>(hI.ioLt i b hb).1) (fun t e r hr=>(hI.thLt t e r hr).1) _ _
 refine awp_sound (ro:=none) hm hI (fun l h=>by cases h) c hok _ _ ?_ K w H _ _ [] (.refl hI) hE (.nil _ _ _ _) (h hcl hlow)
 intro e K' w' H' env a ds hX hE hM h
 have fin:aRet P H.next fn.results.toList R env H'→LeavesInM Fence.wide 0 P fn a.tmps (fun e w'=>∃ K' v x H',e=.returned x∧Ext K w H K' w' H'∧Rep K' w' v x∧R v H') a.defers .returning w':=by
  rintro ⟨v0,v,H2,h1,h2,h3,h4,h5,h6⟩
  rw [hE.defers]
  refine leaves_marks ds w' hX hM fun w' hX st=>?_
  replace hE:=hE.step st
  clear hM
  unfold aResults at h1
  have hmap:∀ vs,fn.results.toList.mapM (aResult P env H')=some vs→∃ xs:List Value,(fn.results.mapM (resRun a.tmps)).run P w'=.ok xs.toArray w'∧RepL K' w' vs xs:=by
   intro vs hvs
   obtain ⟨xs,g1,g2⟩:=results_run (P:=P) hX.inv hE hvs
   refine ⟨xs,?_,g2⟩
   rw [Array.mapM_eq_mapM_toList,Sem.run_map,g1]
   rfl
  have fin2:∀ x,Rep K' w' v0 x→∃ K'' v' x' H'',Ending.returned x=.returned x'∧Ext K w H K'' w' H''∧Rep K'' w' v' x'∧R v' H'':=fun x hx =>
   ⟨K'.cut H2.next,v,x,H2,rfl,Ext.reset hI hX h4 h5,Rep.cut _ _ h3 (h2 K' w' x hx),h6⟩
  split at h1
  ·rename_i v1 hvs
   simp only [Option.some.injEq] at h1
   subst h1
   obtain ⟨xs,g1,x,ys,rfl,g2,g3⟩:=hmap _ hvs
   obtain rfl:ys=[]:=g3
   exact ⟨x,by simp [results_eq,Sem.run_bind,g1],fin2 x g2⟩
  ·rename_i vs hne hvs
   simp only [Option.some.injEq] at h1
   subst h1
   obtain ⟨xs,g1,g2⟩:=hmap _ hvs
   have hl:=g2.length
   have hsz:¬ xs.toArray.size=1:=by
    intro h
    match vs,hl with
    | [v],_=>exact hne v rfl
    | [],hl=>simp at h;simp [h] at hl
    | _::_::_,hl=>simp at h;simp [h] at hl
   refine ⟨.tuple xs.toArray,?_,fin2 _ ⟨xs.toArray,rfl,g2⟩⟩
   simp only [results_eq,Sem.run_bind,g1,Result.andThen_ok]
   rw [dif_neg hsz]
   rfl
  ·cases h1
 cases e with
 | normal=>exact fin h
 | exit i=>exact h.elim
 | ret=>exact fin h
end
end Go.Abs
namespace Go.Abs
open Go
def nid (n i:Nat):Nat:=n+i
def HL (H:AHeap) (bs:List ABlock):AHeap:=⟨fun i=>if i < H.next then H.get i else bs[i - H.next]?,H.next+bs.length⟩
theorem AHeap.ext {A B:AHeap} (h:∀ i,A.get i=B.get i) (hn:A.next=B.next):A=B:=by
 cases A;cases B;simp only [AHeap.mk.injEq];exact ⟨funext h,hn⟩
theorem HL_nil {H:AHeap} (h:H.Closed):HL H []=H:=by
 refine AHeap.ext (fun i=>?_) rfl
 simp only [HL]
 by_cases hi:i < H.next
 ·rw [if_pos hi]
 ·rw [if_neg hi]
  cases hg:H.get i with
  | none=>simp
  | some B=>exact absurd (h i B hg).1 hi
section
variable {H:AHeap} {bs:List ABlock} {n i j c:Nat} {b:ABlock}
@[simp] theorem next_HL:(HL H bs).next=nid H.next bs.length:=Eq.trans rfl rfl
@[simp] theorem next_upd:(H.upd c b).next=H.next:=Eq.trans rfl rfl
@[simp] theorem next_alloc:(H.alloc b).next=H.next+1:=Eq.trans rfl rfl
theorem get_nid (h:H.next=n):(HL H bs).get (nid n i)=bs[i]?:=by
 subst h
 simp only [HL,nid]
 rw [if_neg (by omega),Nat.add_sub_cancel_left]
theorem get_lt (h:c < H.next):(HL H bs).get c=H.get c:=by simp only [HL];rw [if_pos h]
@[simp] theorem alloc_HL:(HL H bs).alloc b=HL H (bs++[b]):=by
 refine AHeap.ext (fun i=>?_) (by simp [AHeap.alloc,HL,Nat.add_assoc])
 show (if i=H.next+bs.length then some b else if i < H.next then H.get i else bs[i - H.next]?)=if i < H.next then H.get i else (bs++[b])[i - H.next]?
 by_cases h:i=H.next+bs.length
 ·subst h
  rw [if_pos rfl,if_neg (by omega)]
  simp
 ·rw [if_neg h]
  by_cases h2:i < H.next
  ·rw [if_pos h2,if_pos h2]
  ·rw [if_neg h2,if_neg h2]
   rcases Nat.lt_or_ge (i - H.next) bs.length with h3 | h3
   ·rw [List.getElem?_append_left h3]
   ·rw [List.getElem?_eq_none h3,List.getElem?_eq_none (by simp;omega)]
theorem upd_nid (h:H.next=n) (hi:i < bs.length):(HL H bs).upd (nid n i) b=HL H (bs.set i b):=by
 subst h
 refine AHeap.ext (fun j=>?_) (by simp [AHeap.upd,HL])
 show (if j=H.next+i then some b else if j < H.next then H.get j else bs[j - H.next]?)=if j < H.next then H.get j else (bs.set i b)[j - H.next]?
 by_cases h:j=H.next+i
 ·subst h
  rw [if_pos rfl,if_neg (by omega),Nat.add_sub_cancel_left]
  simp [hi]
 ·rw [if_neg h]
  by_cases h2:j < H.next
  ·rw [if_pos h2,if_pos h2]
  ·rw [if_neg h2,if_neg h2,List.getElem?_set]
   rw [if_neg (by omega)]
theorem upd_lt (h:c < H.next):(HL H bs).upd c b=HL (H.upd c b) bs:=by
 refine AHeap.ext (fun j=>?_) rfl
 show (if j=c then some b else if j < H.next then H.get j else bs[j - H.next]?)=if j < H.next then (if j=c then some b else H.get j) else bs[j - H.next]?
 by_cases h1:j=c
 ·subst h1;rw [if_pos rfl,if_pos h,if_pos rfl]
 ·rw [if_neg h1]
  by_cases h2:j < H.next
  ·rw [if_pos h2,if_pos h2,if_neg h1]
  ·rw [if_neg h2,if_neg h2]
@[simp] theorem get_upd_self:(H.upd c b).get c=some b:=by simp [AHeap.upd]
theorem get_upd_ne (h:j≠c):(H.upd c b).get j=H.get j:=by simp [AHeap.upd,h]
@[simp] theorem upd_upd {b':ABlock}:(H.upd c b).upd c b'=H.upd c b':=by
 refine AHeap.ext (fun j=>?_) rfl
 simp only [AHeap.upd]
 by_cases h:j=c
 ·subst h;simp
 ·simp [h]
@[simp] theorem nid_inj:nid n i=nid n j↔i=j:=by unfold nid;omega
@[simp] theorem nid_le:nid n i≤nid n j↔i≤j:=by unfold nid;omega
@[simp] theorem nid_add:nid n i+j=nid n (i+j):=by unfold nid;omega
theorem nid_lt_nid (h:i < j):nid n i < nid n j:=by unfold nid;omega
theorem lt_nid (h:c < n):c < nid n i:=by unfold nid;omega
@[simp] theorem nid_lt:nid n i < nid n j↔i < j:=by unfold nid;omega
theorem le_nid:n≤nid n i:=by unfold nid;omega
theorem upd_same (h:H.get c=some b):H.upd c b=H:=by
 refine AHeap.ext (fun j=>?_) rfl
 simp only [AHeap.upd]
 by_cases hj:j=c
 ·subst hj;simp [h]
 ·simp [hj]
end
@[simp] theorem put_some (env:Env) (d t:Nat) (v:AV):(env.put (some d) v) t=if t=d then v else env t:=rfl
@[simp] theorem put_none (env:Env) (v:AV):env.put none v=env:=rfl
@[simp] theorem ofL_nil (t:Nat):Env.ofL [] t=.undef:=rfl
@[simp] theorem ofL_cons (d:Nat) (v:AV) (l:List (Nat × AV)) (t:Nat):Env.ofL ((d,v)::l) t=if t=d then v else Env.ofL l t:=rfl
@[simp] theorem args_get (as:List AV) (t:Nat):Env.args as t=(as[t]?).getD .undef:=rfl
@[simp] theorem lowR_append (n:Nat):∀ a b:List (List AV),lowR n (a++b)↔lowR n a∧lowR n b
 | [],b=>by simp [lowR]
 | r::a,b=>by simp [lowR,lowR_append n a b,and_assoc]
@[simp] theorem lowL_append (n:Nat):∀ a b:List AV,lowL n (a++b)↔lowL n a∧lowL n b
 | [],b=>by simp [lowL]
 | r::a,b=>by simp [lowL,lowL_append n a b,and_assoc]
theorem lowR_take {n:Nat}:∀ {a:List (List AV)} (k:Nat),lowR n a→lowR n (a.take k)
 | _,0,_=>by simp [lowR]
 | [],k+1,_=>by simp [lowR]
 | r::a,k+1,h=>by simp only [List.take_succ_cons];exact ⟨h.1,lowR_take k h.2⟩
theorem lowR_map {α:Type} {n:Nat} {f:α→List AV}:∀ {l:List α},(∀ x∈l,lowL n (f x))→lowR n (l.map f)
 | [],_=>trivial
 | x::l,h=>⟨h x (by simp),lowR_map fun y hy=>h y (by simp [hy])⟩
@[simp] theorem wk_refl (a:AV):Wk a a↔True:=⟨fun _=>trivial,fun _=>.refl a⟩
@[simp] theorem wk_undef (a:AV):Wk a .undef↔True:=⟨fun _=>trivial,fun _=>.undef a⟩
@[simp] theorem wk_tok (r:List (List AV)) (t:Option Nat):Wk (.slice r t) (.slice r none)↔True:=⟨fun _=>trivial,fun _=>.tok r t⟩
@[simp] theorem wk_nil:Wk (.v (.slice none 0 0)) (.slice [] none)↔True:=⟨fun _=>trivial,fun _=>.nilSlice⟩
@[simp] theorem wkE_refl (l:List AV):WkE l l↔True:=⟨fun _=>trivial,fun _=>.refl l⟩
@[simp] theorem wkL_refl (l:List AV):WkL l l↔True:=⟨fun _=>trivial,fun _=>.refl l⟩
@[simp] theorem wkB_refl (b:ABlock):WkB b b↔True:=⟨fun _=>trivial,fun _=>.refl b⟩
def WkBs (n:Nat):List ABlock→List ABlock→Prop
 | _,[]=>True
 | a::as,b::bs=>WkB a b∧b.low n∧WkBs n as bs
 | [],_::_=>False
def WkEnv (n:Nat) (env:Env):List (Nat × AV)→Prop
 | []=>True
 | (d,b)::l=>Wk (env d) b∧b.low n∧WkEnv n env l
theorem WkBs.get {n:Nat}:∀ {as bs:List ABlock},WkBs n as bs→∀ {i:Nat} {b:ABlock},bs[i]?=some b→b.low n∧∃ a,as[i]?=some a∧WkB a b
 | _,[],_,i,b,h=>by simp at h
 | a::as,c::bs,⟨h1,h2,h3⟩,0,b,h=>by simp only [List.getElem?_cons_zero,Option.some.injEq] at h;subst h;exact ⟨h2,a,rfl,h1⟩
 | a::as,c::bs,⟨h1,h2,h3⟩,i+1,b,h=>by simp only [List.getElem?_cons_succ] at h ⊢;exact h3.get h
 | [],_::_,h,_,_,_=>h.elim
theorem WkBs.length {n:Nat}:∀ {as bs:List ABlock},WkBs n as bs→bs.length≤as.length
 | _,[],_=>Nat.zero_le _
 | a::as,c::bs,⟨h1,h2,h3⟩=>by simp [h3.length]
 | [],_::_,h=>h.elim
mutual
theorem AV.low_mono {n m:Nat} (h:n≤m):∀ (a:AV),a.low n→a.low m
 | .v _,_=>trivial
 | .undef,_=>trivial
 | .agg cs,hl=>lowL_mono h cs hl
 | .tuple cs,hl=>lowL_mono h cs hl
 | .slice rows _,⟨h1,h2⟩=>⟨fun t ht=>Nat.lt_of_lt_of_le (h1 t ht) h,lowR_mono h rows h2⟩
 | .ms _ _ _,hl=>Nat.lt_of_lt_of_le hl h
 | .ref _ _,hl=>Nat.lt_of_lt_of_le hl h
 | .iptr cs,hl=>lowL_mono h cs hl
 | .map _,hl=>Nat.lt_of_lt_of_le hl h
 | .fn _ caps,hl=>lowL_mono h caps hl
 | .vec _ _,hl=>Nat.lt_of_lt_of_le hl h
 | .vref _ _ _ _ _,hl=>Nat.lt_of_lt_of_le hl h
 | .view _ _ _,hl=>Nat.lt_of_lt_of_le hl h
 | .yld _,hl=>Nat.lt_of_lt_of_le hl h
 | .stm _ _ _,hl=>Nat.lt_of_lt_of_le hl h
theorem lowL_mono {n m:Nat} (h:n≤m):∀ (as:List AV),lowL n as→lowL m as
 | [],_=>trivial
 | a::as,⟨h1,h2⟩=>⟨AV.low_mono h a h1,lowL_mono h as h2⟩
theorem lowR_mono {n m:Nat} (h:n≤m):∀ (rs:List (List AV)),lowR n rs→lowR m rs
 | [],_=>trivial
 | r::rs,⟨h1,h2⟩=>⟨lowL_mono h r h1,lowR_mono h rs h2⟩
end
theorem lowEs_mono {n m:Nat} (h:n≤m):∀ (es:List (Value × AV)),lowEs n es→lowEs m es
 | [],_=>trivial
 | (_,a)::es,⟨h1,h2⟩=>⟨a.low_mono h h1,lowEs_mono h es h2⟩
theorem ABlock.low_mono {n m:Nat} (h:n≤m):∀ (b:ABlock),b.low n→b.low m
 | .cells l,hl=>lowL_mono h l hl
 | .amap es _,hl=>lowEs_mono h es hl
 | .iter _ _ _ _,hl=>Nat.lt_of_lt_of_le hl h
 | .tok _ _ none,_=>trivial
 | .hole,_=>trivial
 | .gone,_=>trivial
 | .lrec r _,hl=>fun t=>AV.low_mono h _ (hl t)
 | .tok _ _ (some l),hl=>lowR_mono h l hl
theorem closed_HL {H:AHeap} {bs:List ABlock} (hc:H.Closed) (hb:∀ b∈bs,b.low (nid H.next bs.length)):(HL H bs).Closed:=by
 intro i B h
 simp only [HL] at h ⊢
 by_cases hi:i < H.next
 ·rw [if_pos hi] at h
  exact ⟨by omega,B.low_mono (Nat.le_add_right _ _) (hc i B h).2⟩
 ·rw [if_neg hi] at h
  have hm:=List.mem_of_getElem? h
  have:i - H.next < bs.length:=by
   rcases Nat.lt_or_ge (i - H.next) bs.length with h' | h'
   ·exact h'
   ·simp [List.getElem?_eq_none h'] at h
  exact ⟨by omega,hb B hm⟩
theorem closed_upd {H:AHeap} {c:Nat} {b:ABlock} (hc:H.Closed) (hlt:c < H.next) (hb:b.low H.next):(H.upd c b).Closed:=by
 intro i B h
 simp only [AHeap.upd] at h ⊢
 by_cases hi:i=c
 ·subst hi;rw [if_pos rfl] at h;cases h;exact ⟨hlt,hb⟩
 ·rw [if_neg hi] at h;exact hc i B h
theorem reset_HL {H:AHeap} {bs bs':List ABlock} (hc:H.Closed) (h:WkBs (nid H.next bs'.length) bs bs'):Reset (HL H bs) (HL H bs'):=by
 refine ⟨by have:=h.length;simp [nid];exact this,fun i B hB=>?_⟩
 simp only [HL] at hB ⊢
 by_cases hi:i < H.next
 ·rw [if_pos hi] at hB
  exact ⟨by omega,B.low_mono (Nat.le_add_right _ _) (hc i B hB).2,B,by rw [if_pos hi];exact hB,.refl B⟩
 ·rw [if_neg hi] at hB
  obtain ⟨h1,a,h2,h3⟩:=h.get hB
  have:i - H.next < bs'.length:=by
   rcases Nat.lt_or_ge (i - H.next) bs'.length with h' | h'
   ·exact h'
   ·simp [List.getElem?_eq_none h'] at hB
  exact ⟨by omega,h1,a,by rw [if_neg hi];exact h2,h3⟩
theorem reset_all {H:AHeap} {bs:List ABlock} (hc:H.Closed):Reset (HL H bs) H:=by
 have:=reset_HL (bs:=bs) (bs':=[]) hc (by cases bs <;> trivial)
 rwa [HL_nil hc] at this
theorem weak_HL {n0:Nat} {H:AHeap} {bs bs':List ABlock} {env:Env} {l':List (Nat × AV)} (hc:H.Closed) (hn:H.next=n0) (h:WkBs (nid n0 bs'.length) bs bs') (he:WkEnv (nid n0 bs'.length) env l') :
  Weak n0 env (HL H bs) (Env.ofL l') (HL H bs'):=by
 subst hn
 refine ⟨reset_HL hc h,le_nid,?_⟩
 have:∀ {m:Nat} {l':List (Nat × AV)},WkEnv m env l'→∀ t,Wk (env t) (Env.ofL l' t)∧(Env.ofL l' t).low m:=by
  intro m l'
  induction l' with
  | nil=>intro h t;exact ⟨.undef _,trivial⟩
  | cons p' l' ih =>
   intro h t
   obtain ⟨d',b⟩:=p'
   obtain ⟨h1,h2,h3⟩:=h
   simp only [ofL_cons]
   by_cases ht:t=d'
   ·subst ht;rw [if_pos rfl];exact ⟨h1,h2⟩
   ·rw [if_neg ht];exact ih h3 t
 exact this he
@[simp] theorem aRet_eq {P:Program} {n0:Nat} {rs:List ResultVar} {v:AV} {H1:AHeap} {env:Env} {H:AHeap} :
  aRet P n0 rs (fun v' H''=>v'=v∧H''=H1) env H↔∃ v0,aResults P env H rs=some v0∧Wk v0 v∧v.low H1.next∧Reset H H1∧n0≤H1.next:=by
 constructor
 ·rintro ⟨v0,v',H2,h1,h2,h3,h4,h5,rfl,rfl⟩;exact ⟨v0,h1,h2,h3,h4,h5⟩
 ·rintro ⟨v0,h1,h2,h3,h4,h5⟩;exact ⟨v0,_,_,h1,h2,h3,h4,h5,rfl,rfl⟩
section
variable {P:Program} {md:Nat→Mode} {n0:Nat} {L:List Nat} {Q:AExit→Env→AHeap→Prop} {env:Env} {H:AHeap}
theorem awp_seq_k {a b:Code} (h:∀ K:Env→AHeap→Prop,(∀ env H,awp P md n0 L b Q env H→K env H) →
  awp P md n0 L a (fun e env H=>match e with | .normal=>K env H | .exit i=>Q (.exit i) env H | .ret=>Q .ret env H) env H):awp P md n0 L (.seq a b) Q env H:=h _ fun _ _ h=>h
theorem awp_assoc {a b c:Code} (h:awp P md n0 L (.seq a (.seq b c)) Q env H):awp P md n0 L (.seq (.seq a b) c) Q env H:=by
 have e:∀ f g:AExit→Env→AHeap→Prop,(∀ e,f e=g e)→awp P md n0 L a f env H→awp P md n0 L a g env H:=by
  intro f g h;rw [show f=g from funext h];exact fun h=>h
 refine e _ _ ?_ h
 intro x
 cases x <;> rfl
theorem awp_region {id:Nat} {ops:List Oper} (h:aOps P md ops.toArray (fun env H=>Q .normal (Env.ofL (L.map fun t=>(t,env t))) H) ops env H):awp P md n0 L (.region id ops.toArray false) Q env H:=by
 simpa [awp,aRegion] using h
theorem awp_draw {id:Nat} {ops:List Oper} (eff:List Nat) (W:List (List Nat)) (hW:drawOk ops.toArray eff W=true)
  (h:aLex P md ops.toArray eff W (fun env H=>Q .normal (Env.ofL (L.map fun t=>(t,env t))) H) ops 0 [] [] env H):awp P md n0 L (.region id ops.toArray true) Q env H :=
 .inl ⟨eff,W,hW,h⟩
theorem awp_cond {c:Operand} {a b:Code} {t:Bool} (hc:aeval env c=.v (.bool t)) (h:if t then awp P md n0 L a Q env H else awp P md n0 L b Q env H):awp P md n0 L (.cond c a b) Q env H:=by
 simp only [awp,hc];exact h
theorem awp_condT {c:Operand} {a b:Code} {t:Bool} (hc:aeval env c=.v (.bool t)) (ht:t=true) (h:awp P md n0 L a Q env H):awp P md n0 L (.cond c a b) Q env H:=by
 subst ht;exact awp_cond hc h
theorem awp_condF {c:Operand} {a b:Code} {t:Bool} (hc:aeval env c=.v (.bool t)) (ht:t=false) (h:awp P md n0 L b Q env H):awp P md n0 L (.cond c a b) Q env H:=by
 subst ht;exact awp_cond hc h
theorem awp_skip (h:Q .normal env H):awp P md n0 L .skip Q env H:=h
theorem awp_ret (h:Q .ret env H):awp P md n0 L .ret Q env H:=h
theorem awp_exit {i:Nat} (h:Q (.exit i) env H):awp P md n0 L (.exit i) Q env H:=h
theorem awp_block {id:Nat} {b:Code} (h:awp P md n0 L b (fun e env H=>match e with | .normal=>Q .normal env H | .exit i=>(if i=id then Q .normal env H else Q (.exit i) env H) | .ret=>Q .ret env H) env H):awp P md n0 L (.block id b) Q env H:=h
theorem awp_loop {b:Code} (I:Nat→Env→AHeap→Prop) (m:Nat) {env2:Env} {H2:AHeap} (hw:Weak n0 env H env2 H2) (h0:I m env2 H2)
  (h:∀ m env H,I m env H→awp P md n0 L b (fun e env' H'=>match e with
    | .normal=>∃ k env2 H2,Weak n0 env' H' env2 H2∧k < m∧I k env2 H2
    | .exit i=>Q (.exit i) env' H'
    | .ret=>Q .ret env' H') env H):awp P md n0 L (.loop b) Q env H:=⟨I,⟨m,env2,H2,hw,h0⟩,h⟩
theorem aStep_mono {o:Oper} {Kn Kn':AV→AHeap→Prop} (hk:∀ v H,Kn v H→Kn' v H) (h:aStep P md env H Kn o):aStep P md env H Kn' o:=by
 have hop:aop P md env H (tokW md o.dst Kn) o→aop P md env H (tokW md o.dst Kn') o:=by
  intro h
  obtain ⟨v,H1,h1,h2⟩:=aop_det h
  obtain ⟨v',H2,h3,h4⟩:=tokW_det h1
  exact h2 _ (h4 _ (hk _ _ h3))
 obtain ⟨dst,op,ty,pos,after,guard⟩:=o
 cases op with
 | call c =>
  obtain ⟨callee,args,tys⟩:=c
  cases callee with
  | value f =>
   simp only [aStep] at h ⊢
   generalize aeval env f=fv at h ⊢
   cases fv <;> first | exact h.elim | exact ACallsR.mono h hk | exact AYieldR.mono h hk
  | invoke _ _=>exact hop h
  | builtin b=>exact hop h
 | next t b =>
  cases b with
  | true=>exact hop h
  | false =>
   have h:aNext H Kn (aeval env t):=h
   show aNext H Kn' (aeval env t)
   unfold aNext at h ⊢
   split at h
   ·split at h
    ·split at h
     ·rename_i h1 _ _ h2
      exact ⟨h.1,fun hl=>hk _ _ (h.2.1 hl),fun j hj e he=>hk _ _ (h.2.2 j hj e he)⟩
     ·exact h.elim
    ·exact h.elim
   ·exact h.elim
 | _=>exact hop h
theorem aOps_mono {ops:Array Oper} {Qr Qr':Env→AHeap→Prop} (hk:∀ env H,Qr env H→Qr' env H):∀ {l:List Oper} {env:Env} {H:AHeap},aOps P md ops Qr l env H→aOps P md ops Qr' l env H
 | [],_,_,h=>hk _ _ h
 | o::l,env,H,h=>by
  simp only [aOps] at h ⊢
  split at h
  ·exact aStep_mono (fun v H' h=>aOps_mono hk h) h
  ·exact aOps_mono hk h
  ·exact h.elim
theorem aLex_mono {ops:Array Oper} {eff:List Nat} {W:List (List Nat)} {Qr Qr':Env→AHeap→Prop} (hk:∀ env H,Qr env H→Qr' env H) :
  ∀ {l:List Oper} {k:Nat} {Cs:List (Nat × (AHeap→Prop))} {Ps:List (Nat × AHeap)} {env:Env} {H:AHeap},aLex P md ops eff W Qr l k Cs Ps env H→aLex P md ops eff W Qr' l k Cs Ps env H
 | [],_,_,_,_,_,h=>hk _ _ h
 | o::l,k,Cs,Ps,env,H,h=>by
  simp only [aLex] at h ⊢
  split at h
  ·exact h.elim
  ·exact aLex_mono hk h
  ·split at h
   ·rename_i he
    simp only [he,if_true]
    obtain ⟨v,H1,h1,h2,h3⟩:=h
    exact ⟨v,H1,h1,h2,aLex_mono hk h3⟩
   ·rename_i he
    simp only [he]
    obtain ⟨v,h1,h2,h3⟩:=h
    exact ⟨v,h1,h2,aLex_mono hk h3⟩
theorem awp_mono:∀ {c:Code} {Q Q':AExit→Env→AHeap→Prop},(∀ e env H,Q e env H→Q' e env H)→∀ {env:Env} {H:AHeap},awp P md n0 L c Q env H→awp P md n0 L c Q' env H:=by
 intro c
 induction c with
 | skip=>intro Q Q' hk env H h;exact hk _ _ _ h
 | region id ops draw =>
  intro Q Q' hk env H h
  cases draw with
  | false=>exact aOps_mono (fun _ _ h=>hk _ _ _ h) h
  | true =>
   rcases h with ⟨eff,W,h1,h2⟩ | h
   ·exact .inl ⟨eff,W,h1,aLex_mono (fun _ _ h=>hk _ _ _ h) h2⟩
   ·exact .inr (gDraw_mono (fun _ _ h=>hk _ _ _ h) h)
 | seq a b iha ihb =>
  intro Q Q' hk env H h
  refine iha ?_ h
  intro e env H h
  cases e with
  | normal=>exact ihb hk h
  | exit i=>exact hk _ _ _ h
  | ret=>exact hk _ _ _ h
 | cond c a b iha ihb =>
  intro Q Q' hk env H h
  simp only [awp] at h ⊢
  split at h
  ·rename_i t ht
   cases t with
   | true=>exact iha hk h
   | false=>exact ihb hk h
  ·exact h.elim
 | block id b ih =>
  intro Q Q' hk env H h
  refine ih ?_ h
  intro e env H h
  cases e with
  | normal=>exact hk _ _ _ h
  | exit i =>
   simp only at h ⊢
   by_cases hi:i=id
   ·rw [if_pos hi] at h ⊢;exact hk _ _ _ h
   ·rw [if_neg hi] at h ⊢;exact hk _ _ _ h
  | ret=>exact hk _ _ _ h
 | loop b ih =>
  intro Q Q' hk env H h
  obtain ⟨I,h0,h1⟩:=h
  refine ⟨I,h0,fun m env H hi=>ih ?_ (h1 m env H hi)⟩
  intro e env H h
  cases e with
  | normal=>exact h
  | exit i=>exact hk _ _ _ h
  | ret=>exact hk _ _ _ h
 | exit id=>intro Q Q' hk env H h;exact hk _ _ _ h
 | ret=>intro Q Q' hk env H h;exact hk _ _ _ h
 | rangeFunc f ps x y _ _ =>
  intro Q Q' hk env H h
  simp only [awp] at h ⊢
  generalize aeval env f=fv at h ⊢
  cases fv <;> first | exact h.elim | skip
  refine ACallsR.mono h fun v H' h=>?_
  split at h
  ·exact hk _ _ _ h
  ·exact hk _ _ _ h
  ·exact hk _ _ _ h
  ·exact h.elim
 | _=>intro Q Q' hk env H h;exact h.elim
theorem awp_up {b:Code} (n:Nat) (E:Nat→Env) (G:Nat→AHeap) (I:Nat→Prop) (hw:Weak n0 env H (E 0) (G 0)) (h0:I 0)
  (h:∀ k,k < n→I k→awp P md n0 L b (fun e env' H'=>match e with
    | .normal=>I (k+1)∧Weak n0 env' H' (E (k+1)) (G (k+1))
    | .exit i=>Q (.exit i) env' H'
    | .ret=>Q .ret env' H') (E k) (G k))
  (he:I n→awp P md n0 L b (fun e env' H'=>match e with
    | .normal=>False
    | .exit i=>Q (.exit i) env' H'
    | .ret=>Q .ret env' H') (E n) (G n)):awp P md n0 L (.loop b) Q env H:=by
 refine awp_loop (fun m env H=>∃ k,k≤n∧m=n - k∧env=E k∧H=G k∧I k) n hw ⟨0,Nat.zero_le _,rfl,rfl,rfl,h0⟩ ?_
 rintro m env H ⟨k,hk,rfl,rfl,rfl,hi⟩
 by_cases hlt:k < n
 ·refine awp_mono ?_ (h k hlt hi)
  intro e env' H' hq
  cases e with
  | normal=>exact ⟨n - (k+1),_,_,hq.2,by omega,k+1,by omega,rfl,rfl,rfl,hq.1⟩
  | exit i=>exact hq
  | ret=>exact hq
 ·obtain rfl:k=n:=by omega
  refine awp_mono ?_ (he hi)
  intro e env' H' hq
  cases e with
  | normal=>exact hq.elim
  | exit i=>exact hq
  | ret=>exact hq
theorem acalls_walk {f : FuncId} {fn : Func} {c : Code} {args : List AV} {R : AV → AHeap → Prop} (md : Nat → Mode) (L : List Nat) (hm : P.follows .mixedOrders = true) (hf : P.funcs[f]? = some fn) (hb : fn.body = some c) (hn : decide (fn.name ≠ "runtime.NumGoroutine") = true)
  (hargs:Nat.ble args.length fn.ntmps=true) (hok:okCode fn.ntmps c=true) (h:H.Closed→lowL H.next args→awp P md H.next L c (aEnd P H.next fn.results.toList R) (Env.args args) (HL H [])):ACallsR P f args H R :=
 acalls_of_awp md L hm hf hb (of_decide_eq_true hn) (Nat.le_of_ble_eq_true hargs) hok fun h1 h2=>by have:=h h1 h2;rwa [HL_nil h1] at this
theorem awp_sr {id:Nat} {ops:List Oper} {b:Code} (h:∀ K:Env→AHeap→Prop,(∀ env H,awp P md n0 L b Q env H→K env H) →
  aOps P md ops.toArray (fun env H=>K (Env.ofL (L.map fun t=>(t,env t))) H) ops env H):awp P md n0 L (.seq (.region id ops.toArray false) b) Q env H :=
 awp_seq_k fun K hK=>awp_region (h K hK)
theorem awp_sd {id:Nat} {ops:List Oper} {b:Code} (eff:List Nat) (W:List (List Nat)) (hW:drawOk ops.toArray eff W=true) (h:∀ K:Env→AHeap→Prop,(∀ env H,awp P md n0 L b Q env H→K env H) →
  aLex P md ops.toArray eff W (fun env H=>K (Env.ofL (L.map fun t=>(t,env t))) H) ops 0 [] [] env H):awp P md n0 L (.seq (.region id ops.toArray true) b) Q env H :=
 awp_seq_k fun K hK=>awp_draw eff W hW (h K hK)
theorem aLex_read {ops:Array Oper} {eff:List Nat} {W:List (List Nat)} {Qr:Env→AHeap→Prop} {o:Oper} {l:List Oper} {k:Nat} {Cs:List (Nat × (AHeap→Prop))} {Ps:List (Nat × AHeap)}
  (hw:wantedA ops env o=some true) (he:eff.contains k=false) (hc:isCall o.op=false) (hn:isNext o.op=false)
  (h:∀ K:(AHeap→Prop)→Env→AHeap→Prop,(∀ C env H,aLex P md ops eff W Qr l (k+1) ((k,C)::Cs) Ps env H→K C env H) →
   aop P md env H (tokW md o.dst fun v H'=>H'=H∧(∀ p∈Ps,unord W k p.1=true→Det P md o env p.2 v p.2)∧K (fun H'=>Det P md o env H' v H') (env.put o.dst v) H) o) :
  aLex P md ops eff W Qr (o::l) k Cs Ps env H:=by
 have hst:∀ H Kn,aStep P md env H Kn o↔aop P md env H (tokW md o.dst Kn) o:=by
  intro H Kn
  obtain ⟨dst,op,ty,pos,after,guard⟩:=o
  cases op with
  | call c =>
   obtain ⟨callee,args,tys⟩:=c
   cases callee with
   | value f=>exact absurd hc (by simp [isCall])
   | invoke _ _=>exact Iff.rfl
   | builtin b=>exact Iff.rfl
  | next=>cases hn
  | _=>exact Iff.rfl
 obtain ⟨v,H1,h1,rfl,h2,h3⟩:=aopT_det (h _ fun C env H h=>h)
 simp only [aLex,hw,he,Bool.false_eq_true,if_false]
 exact ⟨v,(hst _ _).2 h1,h2,h3⟩
theorem aLex_eff {ops:Array Oper} {eff:List Nat} {W:List (List Nat)} {Qr:Env→AHeap→Prop} {o:Oper} {l:List Oper} {k:Nat} {Cs:List (Nat × (AHeap→Prop))} {Ps:List (Nat × AHeap)}
  (hw:wantedA ops env o=some true) (he:eff.contains k=true) (hc:isCall o.op=false) (hn:isNext o.op=false)
  (h:∀ K:Env→AHeap→Prop,(∀ env H',aLex P md ops eff W Qr l (k+1) Cs ((k,H)::Ps) env H'→K env H') →
   aop P md env H (tokW md o.dst fun v H1=>(∀ c∈Cs,unord W k c.1=true→c.2 H1)∧K (env.put o.dst v) H1) o) :
  aLex P md ops eff W Qr (o::l) k Cs Ps env H:=by
 have hst:∀ H Kn,aStep P md env H Kn o↔aop P md env H (tokW md o.dst Kn) o:=by
  intro H Kn
  obtain ⟨dst,op,ty,pos,after,guard⟩:=o
  cases op with
  | call c =>
   obtain ⟨callee,args,tys⟩:=c
   cases callee with
   | value f=>exact absurd hc (by simp [isCall])
   | invoke _ _=>exact Iff.rfl
   | builtin b=>exact Iff.rfl
  | next=>cases hn
  | _=>exact Iff.rfl
 obtain ⟨v,H1,h1,h2,h3⟩:=aopT_det (h _ fun env H h=>h)
 simp only [aLex,hw,he,if_true]
 exact ⟨v,H1,(hst _ _).2 h1,h2,h3⟩
theorem aLex_call {ops:Array Oper} {eff:List Nat} {W:List (List Nat)} {Qr:Env→AHeap→Prop} {o:Oper} {l:List Oper} {k:Nat} {Cs:List (Nat × (AHeap→Prop))} {Ps:List (Nat × AHeap)} {v:AV}
  (hw:wantedA ops env o=some true) (he:eff.contains k=false) (h1:Det P md o env H v H) (h2:∀ p∈Ps,unord W k p.1=true→Det P md o env p.2 v p.2)
  (h3:aLex P md ops eff W Qr l (k+1) ((k,fun H'=>Det P md o env H' v H')::Cs) Ps (env.put o.dst v) H):aLex P md ops eff W Qr (o::l) k Cs Ps env H:=by
 simp only [aLex,hw,he,Bool.false_eq_true,if_false]
 exact ⟨v,h1,h2,h3⟩
theorem aLex_calle {ops:Array Oper} {eff:List Nat} {W:List (List Nat)} {Qr:Env→AHeap→Prop} {o:Oper} {l:List Oper} {k:Nat} {Cs:List (Nat × (AHeap→Prop))} {Ps:List (Nat × AHeap)} {v:AV} {H1:AHeap}
  (hw:wantedA ops env o=some true) (he:eff.contains k=true) (h1:Det P md o env H v H1) (h2:∀ c∈Cs,unord W k c.1=true→c.2 H1)
  (h3:aLex P md ops eff W Qr l (k+1) Cs ((k,H)::Ps) (env.put o.dst v) H1):aLex P md ops eff W Qr (o::l) k Cs Ps env H:=by
 simp only [aLex,hw,he,if_true]
 exact ⟨v,H1,h1,h2,h3⟩
theorem aOps_split {ops:Array Oper} {Qr:Env→AHeap→Prop} (n:Nat) {l:List Oper}
  (h:∀ K:Env→AHeap→Prop,(∀ env H,aOps P md ops Qr (l.drop n) env H→K env H)→aOps P md ops K (l.take n) env H):aOps P md ops Qr l env H:=by
 have key:∀ (n:Nat) (l:List Oper) (env:Env) (H:AHeap),aOps P md ops (fun env H=>aOps P md ops Qr (l.drop n) env H) (l.take n) env H→aOps P md ops Qr l env H:=by
  intro n
  induction n with
  | zero=>intro l env H h;simpa [aOps] using h
  | succ n ih =>
   intro l env H h
   cases l with
   | nil=>simpa [aOps] using h
   | cons o l =>
    simp only [List.take_succ_cons,List.drop_succ_cons,aOps] at h ⊢
    split at h
    ·rename_i hw
     exact aStep_mono (fun v H' h=>ih l _ _ h) h
    ·exact ih l _ _ h
    ·exact h.elim
 exact key n l env H (h _ fun _ _ h=>h)
theorem aOps_call {ops:Array Oper} {Qr:Env→AHeap→Prop} {o:Oper} {rest:List Oper} {g:FuncId} {as caps:List AV} {v:AV} {H':AHeap} {f:Operand} {args:Array Operand} {tys:Array TypeId}
  (h:ACalls P g as H v H') (hw:wantedA ops env o=some true) (ho:o.op=.call ⟨.value f,args,tys⟩) (hf:aeval env f=.fn g caps) (ha:args.toList.map (aeval env)++caps=as)
  (hk:aOps P md ops Qr rest (env.put o.dst v) H'):aOps P md ops Qr (o::rest) env H:=by
 simp only [aOps,hw,aStep,ho,hf,ha]
 exact h.mono fun _ _ h=>by obtain ⟨rfl,rfl⟩:=h;exact hk
end
end Go.Abs
namespace Go.Abs
open Go
def Holds (H:AHeap):List (Nat × ABlock)→Prop
 | []=>True
 | (i,b)::l=>H.get i=some b∧Holds H l
def puts (H:AHeap):List (Nat × ABlock)→AHeap
 | []=>H
 | (i,b)::l=>puts (H.upd i b) l
@[simp] theorem puts_next:∀ (l:List (Nat × ABlock)) (H:AHeap),(puts H l).next=H.next
 | [],_=>rfl
 | (i,b)::l,H=>by rw [puts,puts_next l];rfl
theorem upd_comm {H:AHeap} {i j:Nat} {b c:ABlock} (h:i≠j):(H.upd i b).upd j c=(H.upd j c).upd i b:=by
 refine AHeap.ext (fun k=>?_) rfl
 simp only [AHeap.upd]
 by_cases h1:k=j
 ·subst h1;simp [Ne.symm h]
 ·simp [h1]
theorem puts_upd:∀ (l:List (Nat × ABlock)) {H:AHeap} {i:Nat} {b:ABlock},i ∉ l.map (·.1)→puts (H.upd i b) l=(puts H l).upd i b
 | [],_,_,_,_=>rfl
 | (j,c)::l,H,i,b,h=>by
  simp only [List.map_cons,List.mem_cons,not_or] at h
  simp only [puts]
  rw [upd_comm h.1,puts_upd l h.2]
theorem puts_get_ne:∀ (l:List (Nat × ABlock)) {H:AHeap} {i:Nat},i ∉ l.map (·.1)→(puts H l).get i=H.get i
 | [],_,_,_=>rfl
 | (j,c)::l,H,i,h=>by
  simp only [List.map_cons,List.mem_cons,not_or] at h
  simp only [puts]
  rw [puts_get_ne l h.2,get_upd_ne h.1]
theorem puts_holds:∀ (l:List (Nat × ABlock)) {H:AHeap},(l.map (·.1)).Nodup→Holds (puts H l) l
 | [],_,_=>trivial
 | (j,c)::l,H,h=>by
  simp only [List.map_cons,List.nodup_cons] at h
  exact ⟨by simp only [puts];rw [puts_get_ne l h.1];exact get_upd_self,puts_holds l h.2⟩
theorem puts_self:∀ {l:List (Nat × ABlock)} {H:AHeap},Holds H l→puts H l=H
 | [],_,_=>rfl
 | (j,c)::l,H,⟨h1,h2⟩=>by simp only [puts];rw [upd_same h1];exact puts_self h2
theorem puts_puts:∀ {l l':List (Nat × ABlock)} {H:AHeap},l.map (·.1)=l'.map (·.1)→(l.map (·.1)).Nodup→puts (puts H l) l'=puts H l'
 | [],[],_,_,_=>rfl
 | [],_::_,_,h,_=>by simp at h
 | _::_,[],_,h,_=>by simp at h
 | (j,c)::l,(j',c')::l',H,h,hn=>by
  simp only [List.map_cons,List.cons.injEq] at h
  obtain ⟨rfl,h2⟩:=h
  simp only [List.map_cons,List.nodup_cons] at hn
  simp only [puts]
  rw [←puts_upd l hn.1,upd_upd,puts_puts h2 hn.2]
theorem puts_HL:∀ {l:List (Nat × ABlock)} {H:AHeap} {bs:List ABlock},(∀ p∈l,p.1 < H.next)→puts (HL H bs) l=HL (puts H l) bs
 | [],_,_,_=>rfl
 | (j,c)::l,H,bs,h=>by
  simp only [puts]
  rw [upd_lt (h (j,c) (by simp))]
  exact puts_HL (H:=H.upd j c) fun p hp=>h p (by simp [hp])
theorem holds_HL:∀ {l:List (Nat × ABlock)} {H:AHeap} {bs:List ABlock},(∀ p∈l,p.1 < H.next)→(Holds (HL H bs) l↔Holds H l)
 | [],_,_,_=>Iff.rfl
 | (j,c)::l,H,bs,h=>by
  simp only [Holds]
  rw [get_lt (h (j,c) (by simp)),holds_HL fun p hp=>h p (by simp [hp])]
theorem holds_lt:∀ {l:List (Nat × ABlock)} {H:AHeap},H.Closed→Holds H l→∀ p∈l,p.1 < H.next
 | (j,c)::l,H,hc,⟨h1,h2⟩,p,hp=>by
  rcases List.mem_cons.1 hp with rfl | hp
  ·exact (hc _ _ h1).1
  ·exact holds_lt hc h2 p hp
theorem holds_low:∀ {l:List (Nat × ABlock)} {H:AHeap},H.Closed→Holds H l→∀ p∈l,p.2.low H.next
 | (j,c)::l,H,hc,⟨h1,h2⟩,p,hp=>by
  rcases List.mem_cons.1 hp with rfl | hp
  ·exact (hc _ _ h1).2
  ·exact holds_low hc h2 p hp
theorem closed_puts:∀ {l:List (Nat × ABlock)} {H:AHeap},H.Closed→(∀ p∈l,p.1 < H.next∧p.2.low H.next)→(puts H l).Closed
 | [],_,hc,_=>hc
 | (j,c)::l,H,hc,h=>by
  simp only [puts]
  exact closed_puts (closed_upd hc (h (j,c) (by simp)).1 (h (j,c) (by simp)).2) fun p hp=>h p (by simp [hp])
theorem holds_congr {l:List (Nat × ABlock)} {H H':AHeap} (h:∀ p∈l,H'.get p.1=H.get p.1):Holds H l→Holds H' l:=by
 induction l with
 | nil=>exact fun h=>h
 | cons p l ih =>
  rintro ⟨h1,h2⟩
  exact ⟨by rw [h p (by simp)];exact h1,ih (fun q hq=>h q (by simp [hq])) h2⟩
theorem holds_upd_ne {l:List (Nat × ABlock)} {H:AHeap} {i:Nat} {b:ABlock} (hi:i ∉ l.map (·.1)) (h:Holds H l):Holds (H.upd i b) l :=
 holds_congr (fun p hp=>get_upd_ne (fun e=>hi (by rw [←e];exact List.mem_map_of_mem hp))) h
section
variable {P:Program} {md:Nat→Mode}
def isPure:Op→Bool
 | .move _ | .assign _ | .pick _ _ _ | .load _ _ | .binOp _ _ _ _ _ | .unOp _ _ _ | .convert _ _ _ | .fieldAddr _ _ _ | .field _ _ _ | .indexAddr _ _ _ | .index _ _ _ | .extract _ _=>true
 | .lookup _ _ _ _ | .slice _ _ _ _ _ | .build _ _ | .nilCheck _ | .entry _=>true
 | .call ⟨.builtin .len,_,_⟩=>true
 | _=>false
def noTok (md:Nat→Mode):Option Nat→Bool
 | none=>true
 | some d=>match md d with | .nilv _ | .nilm _ | .frz | .nils _ | .cut=>false | _=>true
theorem ret_pure {H:AHeap} {Kn:AV→AHeap→Prop} {r:Option AV} (h:ret H Kn r):ret H (fun v H'=>H'=H∧Kn v H') r:=by
 cases r with
 | none=>exact h.elim
 | some a=>exact ⟨rfl,h⟩
theorem noTok_cut {md:Nat→Mode} {d:Option Nat} (h:noTok md d=true):isCut md d=false:=by
 cases d with
 | none=>rfl
 | some d=>unfold noTok at h;unfold isCut;simp only at h ⊢;cases hm:md d <;> rw [hm] at h <;> first | rfl | cases h
theorem aop_pure {env:Env} {H:AHeap} {Kn:AV→AHeap→Prop} {o:Oper} (hp:isPure o.op=true) (ht:noTok md o.dst=true) (h:aop P md env H Kn o):aop P md env H (fun v H'=>H'=H∧Kn v H') o:=by
 obtain ⟨dst,op,ty,pos,after,guard⟩:=o
 have hcut:isCut md dst=false:=noTok_cut ht
 revert h
 cases op <;> simp only [isPure] at hp <;> try (cases hp)
 case call c =>
  obtain ⟨callee,args,tys⟩:=c
  cases callee <;> try (cases hp)
  rename_i b
  cases b <;> simp only [isPure] at hp <;> try (cases hp)
  simp only [aop,aLen]
  repeat' split
  all_goals (intro h;first | exact (h:False).elim | exact ⟨by trivial,h⟩ | exact ⟨h.1,(by trivial),h.2⟩ | exact h.2.elim)
 all_goals simp only [aop,aLoad,aBin,aUn,aConv,aFieldAddr,aField,aIndexAddr,aIndex,aSlice,aLookup,aBuild,aEntry,hcut,Bool.false_eq_true,if_false]
 all_goals repeat' split
 all_goals (intro h;first | exact (h:False).elim | exact ⟨by trivial,h⟩ | exact ret_pure h | exact ⟨h.1,(by trivial),h.2⟩ | exact ⟨h.1,ret_pure h.2⟩ | exact ⟨h.1,h.2.1,(by trivial),h.2.2⟩ | exact ⟨h.1,h.2.1,h.2.2.1,ret_pure h.2.2.2⟩ | exact h.2.2.2.elim | exact ⟨h.1,h.2.1,h.2.2.1,(by trivial),h.2.2.2⟩ | exact ⟨h.1,h.2.1,h.2.2.1,h.2.2.2.1,(by trivial),h.2.2.2.2⟩ | exact ⟨h.1,h.2.1,h.2.2.1,h.2.2.2.1,h.2.2.2.2.1,(by trivial),h.2.2.2.2.2⟩ | exact (h.2).elim | skip)
variable {ops:Array Oper} {W:List (List Nat)} {Qr:Env→AHeap→Prop}
theorem aLex_end {eff:List Nat} {k:Nat} {Cs:List (Nat × (AHeap→Prop))} {Ps:List (Nat × AHeap)} {env:Env} {H:AHeap} (h:Qr env H):aLex P md ops eff W Qr [] k Cs Ps env H:=h
theorem aStep_pure {env:Env} {H:AHeap} {Kn:AV→AHeap→Prop} {o:Oper} (hp:isPure o.op=true) (ht:noTok md o.dst=true) (h:aStep P md env H Kn o):∃ v,Det P md o env H v H∧Kn v H:=by
 have hst:∀ H Kn,aStep P md env H Kn o↔aop P md env H (tokW md o.dst Kn) o:=by
  intro H Kn
  obtain ⟨dst,op,ty,pos,after,guard⟩:=o
  cases op with
  | call c =>
   obtain ⟨callee,args,tys⟩:=c
   cases callee with
   | value f=>exact absurd hp (by simp [isPure])
   | invoke _ _=>exact Iff.rfl
   | builtin b=>exact Iff.rfl
  | next=>exact absurd hp (by simp [isPure])
  | _=>exact Iff.rfl
 have hk:∀ (Kn:AV→AHeap→Prop),tokW md o.dst Kn=Kn:=by
  intro Kn
  unfold tokW
  unfold noTok at ht
  cases hd:o.dst with
  | none=>rfl
  | some d =>
   rw [hd] at ht
   simp only at ht ⊢
   cases hm:md d <;> rw [hm] at ht <;> first | rfl | cases ht
 rw [hst,hk] at h
 have h2:=aop_pure hp ht h
 obtain ⟨v,H1,⟨rfl,h3⟩,h4⟩:=aop_det h2
 refine ⟨v,?_,h3⟩
 show aStep P md env H1 _ o
 rw [hst,hk]
 exact h4 _ ⟨rfl,rfl⟩
end
end Go.Abs
