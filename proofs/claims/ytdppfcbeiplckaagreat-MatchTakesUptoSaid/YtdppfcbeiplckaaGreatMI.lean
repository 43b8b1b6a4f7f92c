/- Loops over functions: a round as yield's contract, and iterators. -/
import Derived.Test.YtdppfcbeiplckaaGreatME
set_option linter.unusedVariables false
set_option linter.unusedSimpArgs false
namespace Go.Abs
open Go
def Env.sets:List (Nat × AV)→Env→Env
 | [],env=>env
 | (d,v)::l,env=>Env.sets l (env.put (some d) v)
@[simp] theorem sets_nil (env:Env):Env.sets [] env=env:=rfl
@[simp] theorem sets_cons (d:Nat) (v:AV) (l:List (Nat × AV)) (env:Env):Env.sets ((d,v)::l) env=Env.sets l (env.put (some d) v):=rfl
def ALoop.round (r:ALoop) (args:List AV):Env:=Env.sets (r.ps.toList.zip args) r.env
def AExit.st:AExit→LSt
 | .normal=>.ready
 | .exit i=>.exit i
 | .ret=>.ret
def AExit.on:AExit→Bool
 | .normal=>true
 | _=>false
def aRoundEnd (n0 i:Nat) (r:ALoop) (R:AV→AHeap→Prop) (e:AExit) (_:Env) (H:AHeap):Prop :=
 ∃ H2,Reset H H2∧n0≤H2.next∧H2.get i=some (.lrec r .busy)∧R (.v (.bool e.on)) (H2.upd i (.lrec r e.st))
section
variable {P:Program}
theorem sets_ok {K:KW} {w:World} {n:Nat}:∀ (l:List (Nat × AV)) (xs:List (Nat × Value)) (env:Env) (tmps:Array Value),
  l.map (·.1)=xs.map (·.1)→RepL K w (l.map (·.2)) (xs.map (·.2))→(∀ p∈l,p.1 < n)→EnvOk K w env ⟨tmps,[]⟩ n [] →
  EnvOk K w (Env.sets l env) ⟨xs.foldl (fun (tmps:Array Value) (p:Nat × Value)=>tmps.setIfInBounds p.1 p.2) tmps,[]⟩ n []
 | [],[],env,tmps,_,_,_,h=>h
 | [],_::_,_,_,h,_,_,_=>by simp at h
 | _::_,[],_,_,h,_,_,_=>by simp at h
 | (d,v)::l,(d',x)::xs,env,tmps,hd,hr,hn,h=>by
  simp only [List.map_cons,List.cons.injEq] at hd hr
  obtain ⟨rfl,hd⟩:=hd
  obtain ⟨y,ys,e,h1,h2⟩:=hr
  simp only [List.cons.injEq] at e
  obtain ⟨rfl,rfl⟩:=e
  exact sets_ok l xs (env.put (some d) v) (tmps.setIfInBounds d x) hd h2 (fun p hp=>hn p (by simp [hp])) (h.put (d:=some d) (fun t ht=>by cases ht;exact hn (d,v) (by simp)) h1)
theorem lrec_turn {K:KW} {w:World} {H:AHeap} {i b:Nat} {r:ALoop} {st st':LSt} {q q':Loop} (hI:Inv K w H) (hget:H.get i=some (.lrec r st)) (hio:K.io i=some b) (hq:w.heap[b]?=some (.loop q))
  (h1:q'.params=q.params) (h2:q'.assign=q.assign) (h3:q'.body=q.body) (h4:q'.tmps=q.tmps) (hst:LStOk st' q'):Ext K w H K (w.putObj b (.loop q')) (H.upd i (.lrec r st')):=by
 obtain ⟨_,b1,q1,hio1,hq1,p1,p2,p3,p4,p5,p6⟩:=hI.blk i _ hget
 obtain rfl:b=b1:=by rw [hio] at hio1;simpa using hio1
 obtain rfl:q=q1:=by rw [hq] at hq1;simpa using hq1
 have hlt:b < w.heap.size:=(Array.getElem?_eq_some_iff.1 hq).1
 have hc:Chg w (w.putObj b (.loop q')) b (.loop q'):=⟨World.putObj_size,World.putObj_heap_same hlt,fun k hk=>World.putObj_heap_other hk,rfl,rfl,rfl⟩
 have hsh:(w.putObj b (.loop q')).shape? b=w.shape? b:=by simp only [World.shape?,hc.at_,hq]
 have st:Step K w K (w.putObj b (.loop q')):=by
  refine ⟨.refl K,fun b' o hb'=>cell_of_heap (hc.others b' (fun e=>hI.ioIm i b o hio (e ▸ hb'))) _ _,by rw [hc.size];exact Nat.le_refl _,fun b' _=>?_,hc.os,hc.tape,hc.output⟩
  by_cases e:b'=b
  ·subst e;exact hsh
  ·exact shape_of_heap (hc.others b' e)
 refine Ext.write hI hio hget hq hc hsh (by simp) (by simp) ?_ ⟨fun h=>(nomatch h),fun q' h=>⟨_,rfl⟩⟩
 exact ⟨b,q',hio,hc.at_,by rw [h1,p1],by rw [h2,p2],by rw [h3,p3],by rw [h4];exact p4,hst,fun t=>by rw [h4];exact (p6 t).mono st.le st.settled⟩
theorem ayield_of_awp {i:Nat} {r:ALoop} {args:List AV} {H:AHeap} {R:AV→AHeap→Prop} (md:Nat→Mode) (L:List Nat) (hm:P.follows .mixedOrders=true) (hget:H.get i=some (.lrec r .ready)) (hargs:args.length=r.ps.size)
  (h:H.Closed→lowL H.next args→awp P md H.next L r.assign (fun e env1 H1=>e=.normal∧H1.get i=some (.lrec r .ready)∧awp P md H.next L r.body (aRoundEnd H.next i r R) env1 (H1.upd i (.lrec r .busy))) (r.round args) H) :
  AYieldR P i args H R:=by
 intro K w cargs b hb hI ha
 have hlen:args.length=cargs.size:=by rw [ha.length];simp
 obtain ⟨_,b',q,hio,hq,hps,has,hbo,hok,hst,hrep⟩:=hI.blk i _ hget
 obtain rfl:b=b':=by rw [hb] at hio;simpa using hio
 simp only [Bool.and_eq_true] at hok
 obtain ⟨hok1,hok2,hok3⟩:=hok
 have hsz:cargs.size=q.params.size:=by rw [hps,←hargs,hlen]
 refine ⟨q.fn,_,q.assign,q.body,run_yield hq hsz,?_⟩
 have hE:EnvOk K w (r.round args) ⟨(q.params.zip cargs).foldl (fun tmps (t,a)=>tmps.setIfInBounds t a) q.tmps,[]⟩ q.tmps.size []:=by
  have hz:(q.params.zip cargs).foldl (fun (tmps:Array Value) (p:Nat × Value)=>tmps.setIfInBounds p.1 p.2) q.tmps=(r.ps.toList.zip cargs.toList).foldl (fun (tmps:Array Value) (p:Nat × Value)=>tmps.setIfInBounds p.1 p.2) q.tmps:=by
   rw [←Array.foldl_toList,Array.toList_zip,hps]
  show EnvOk K w (r.round args) ⟨(q.params.zip cargs).foldl (fun (tmps:Array Value) (p:Nat × Value)=>tmps.setIfInBounds p.1 p.2) q.tmps,[]⟩ q.tmps.size []
  rw [hz]
  have hl1:r.ps.toList.length=args.length:=by rw [hargs];simp
  have hl2:r.ps.toList.length=cargs.toList.length:=by rw [hl1,hlen];simp
  refine sets_ok _ _ _ _ ?_ ?_ ?_ ⟨rfl,hrep,rfl⟩
  ·rw [List.map_fst_zip (by omega),List.map_fst_zip (by omega)]
  ·rw [List.map_snd_zip (by omega),List.map_snd_zip (by omega)];exact ha
  ·intro p hp
   have hm:=(List.of_mem_zip hp).1
   have:=List.all_eq_true.1 hok1 p.1 hm
   simpa [Nat.blt_eq] using this
 have hro:∀ l,some b=some l→∃ q,w.heap[l]?=some (.loop q):=fun l e=>by cases e;exact ⟨q,hq⟩
 have hcl:=hI.closed
 have hlow:lowL H.next args:=ha.low (fun i b hb=>(hI.ioLt i b hb).1) (fun t e r hr=>(hI.thLt t e r hr).1) _ _
 refine roundIn_of_wpIn (n:=0) trivial ?_
 rw [has,hbo]
 refine awp_sound (ro:=some b) hm hI hro r.assign hok2 _ _ ?_ K w H _ _ [] (.refl hI) hE (.nil _ _ _ _) (h hcl hlow)
 rintro e K1 w1 H1 env1 a1 ds1 hX1 hE1 hM1 ⟨rfl,hg1,hbody⟩
 obtain ⟨_,b1,q1,hio1,hq1,p1,p2,p3,p4,p5,p6⟩:=hX1.inv.blk i _ hg1
 obtain rfl:b=b1:=by rw [hX1.step.le.io _ _ hb] at hio1;simpa using hio1
 have hX2:=lrec_turn (q':={ q1 with state:=.busy }) hX1.inv hg1 hio1 hq1 rfl rfl rfl rfl (st':=.busy) rfl
 refine ⟨_,run_beginRound hq1 p5.1,?_⟩
 refine awp_sound (ro:=some b) hm hI hro r.body hok3 _ _ ?_ K1 _ _ _ _ _ (hX1.trans hX2) (hE1.step hX2.step) (hM1.ext hX2) hbody
 rintro e K3 w3 H3 env3 a3 ds3 hX3 hE3 hM3 ⟨H4,hres,hn0,hg4,hR⟩
 have hX4:=Ext.reset hI hX3 hres hn0
 obtain ⟨_,b4,q4,hio4,hq4,_⟩:=hX4.inv.blk i _ hg4
 obtain rfl:b=b4:=by rw [hX4.step.le.io _ _ hb] at hio4;simpa using hio4
 have fin:∀ (jump:Option Code),LStOk e.st { q4 with state:=if jump.isNone then .ready else .done,pending:=jump }→jump.isNone=e.on →
   ∃ v w',(Instr.endRound b jump).run P w3=.ok v w'∧∃ K' v' x H',Ending.returned v=.returned x∧Ext K w H K' w' H'∧Rep K' w' v' x∧R v' H':=by
  intro jump hs hj
  have hX5:=lrec_turn (q':={ q4 with state:=if jump.isNone then .ready else .done,pending:=jump }) hX4.inv hg4 hio4 hq4 rfl rfl rfl rfl hs
  exact ⟨_,_,run_endRound jump hq4,_,.v (.bool e.on),_,_,rfl,hX4.trans hX5,by rw [hj];rfl,hR⟩
 cases e with
 | normal=>exact fin none ⟨rfl,rfl⟩ rfl
 | exit id=>exact fin (some (.exit id)) ⟨rfl,rfl⟩ rfl
 | ret=>exact fin (some .ret) ⟨rfl,rfl⟩ rfl
theorem ayield_walk {i:Nat} {r:ALoop} {args:List AV} {H:AHeap} {R:AV→AHeap→Prop} (md:Nat→Mode) (L:List Nat) (hm:P.follows .mixedOrders=true) (hget:H.get i=some (.lrec r .ready)) (hargs:args.length=r.ps.size)
  (h:H.Closed→(H.upd i (.lrec r .busy)).Closed→lowL H.next args→awp P md H.next L r.assign (fun e env1 H1=>e=.normal∧∃ bs,H1=HL H bs∧awp P md H.next L r.body (aRoundEnd H.next i r R) env1 (HL (H.upd i (.lrec r .busy)) bs)) (r.round args) (HL H [])) :
  AYieldR P i args H R :=
 ayield_of_awp md L hm hget hargs fun hc hl=>by
  have hi:i < H.next:=(hc i _ hget).1
  have hcb:(H.upd i (.lrec r .busy)).Closed:=closed_upd hc hi (hc i _ hget).2
  have:=h hc hcb hl
  rw [HL_nil hc] at this
  refine awp_mono ?_ this
  rintro e env1 H1 ⟨rfl,bs,rfl,h2⟩
  exact ⟨rfl,by rw [get_lt hi];exact hget,by rw [upd_lt hi];exact h2⟩
end
section
variable {P:Program} {md:Nat→Mode} {n0:Nat} {L:List Nat} {Q:AExit→Env→AHeap→Prop} {env:Env} {H:AHeap}
theorem awp_range {f:Operand} {ps:Array Tmp} {x y:Code} {g:FuncId} {caps:List AV} {H0:AHeap} {bs:List ABlock} {R:AV→AHeap→Prop} (hf:aeval env f=.fn g caps)
  (h:ACallsR P g (.yld (nid H0.next bs.length)::caps) (HL H0 (bs++[.lrec ⟨env,ps,x,y⟩ .ready])) R)
  (hk:∀ v H',R v H'→match H'.get (nid H0.next bs.length) with
   | some (.lrec _ .ready)=>Q .normal env (H'.upd (nid H0.next bs.length) .gone)
   | some (.lrec _ (.exit i))=>Q (.exit i) env (H'.upd (nid H0.next bs.length) .gone)
   | some (.lrec _ .ret)=>Q .ret env (H'.upd (nid H0.next bs.length) .gone)
   | _=>False):awp P md n0 L (.rangeFunc f ps x y) Q env (HL H0 bs):=by
 simp only [awp,hf,next_HL,alloc_HL]
 exact h.mono fun v H' hr=>hk v H' hr
theorem awp_range' {f:Operand} {ps:Array Tmp} {x y:Code} {g:FuncId} {caps:List AV} {H0:AHeap} {bs:List ABlock} {n:Nat} (hn:H0.next=n) (hf:aeval env f=.fn g caps)
  (h:∀ r:ALoop,r.env=env→r.ps=ps→r.assign=x→r.body=y→∃ R,ACallsR P g (.yld (nid n bs.length)::caps) (HL H0 (bs++[.lrec r .ready])) R∧∀ v H',R v H'→match H'.get (nid n bs.length) with
   | some (.lrec _ .ready)=>Q .normal env (H'.upd (nid n bs.length) .gone)
   | some (.lrec _ (.exit i))=>Q (.exit i) env (H'.upd (nid n bs.length) .gone)
   | some (.lrec _ .ret)=>Q .ret env (H'.upd (nid n bs.length) .gone)
   | _=>False):awp P md n0 L (.rangeFunc f ps x y) Q env (HL H0 bs):=by
 subst hn
 obtain ⟨R,h1,h2⟩:=h ⟨env,ps,x,y⟩ rfl rfl rfl rfl
 exact awp_range hf h1 h2
theorem aOps_yield {ops:Array Oper} {Qr:Env→AHeap→Prop} {o:Oper} {rest:List Oper} {i:Nat} {as:List AV} {v:AV} {H':AHeap} {f:Operand} {args:Array Operand} {tys:Array TypeId}
  (h:AYieldR P i as H fun v' H''=>v'=v∧H''=H') (hw:wantedA ops env o=some true) (ho:o.op=.call ⟨.value f,args,tys⟩) (hf:aeval env f=.yld i) (ha:args.toList.map (aeval env)=as)
  (hk:aOps P md ops Qr rest (env.put o.dst v) H'):aOps P md ops Qr (o::rest) env H:=by
 simp only [aOps,hw,aStep,ho,hf,ha]
 exact h.mono fun _ _ h=>by obtain ⟨rfl,rfl⟩:=h;exact hk
end
section
variable {α σ:Type}
def feed (step:σ→α→Bool × σ):σ→List α→Bool × σ
 | s,[]=>(true,s)
 | s,v::l=>if (step s v).1=true then feed step (step s v).2 l else (false,(step s v).2)
theorem feed_append (step:σ→α→Bool × σ):∀ (a b:List α) (s:σ),feed step s (a++b)=if (feed step s a).1=true then feed step (feed step s a).2 b else (false,(feed step s a).2)
 | [],b,s=>by simp [feed]
 | v::a,b,s=>by
  by_cases h:(step s v).1=true
  ·simp [feed,h,feed_append step a b]
  ·simp [feed,h]
structure Names (B:Bool→σ→List (Nat × ABlock)) (ids:List Nat):Prop where
 nodup:ids.Nodup
 ids:∀ ok s,(B ok s).map (·.1)=ids
def Eats (P:Program) (enc:α→AV) (i:Nat) (B:Bool→σ→List (Nat × ABlock)) (step:σ→α→Bool × σ) (V:List α):Prop :=
 ∀ s v,v∈V→∀ G:AHeap,Holds G (B true s)→(G.Closed→∀ p∈B (step s v).1 (step s v).2,p.2.low G.next) ∧
  AYieldR P i [enc v] G fun r G'=>r=.v (.bool (step s v).1)∧G'=puts G (B (step s v).1 (step s v).2)
theorem Eats.sub {P:Program} {enc:α→AV} {i:Nat} {B:Bool→σ→List (Nat × ABlock)} {step:σ→α→Bool × σ} {V W:List α} (h:Eats P enc i B step V) (hs:∀ v∈W,v∈V):Eats P enc i B step W :=
 fun s v hv G hG=>h s v (hs v hv) G hG
variable {B:Bool→σ→List (Nat × ABlock)} {ids:List Nat}
theorem Names.lt (h:Names B ids) {G:AHeap} {ok:Bool} {s:σ} (hc:G.Closed) (hG:Holds G (B ok s)):∀ j∈ids,j < G.next:=fun j hj=>by
 rw [←h.ids ok s] at hj
 obtain ⟨p,hp,rfl⟩:=List.mem_map.1 hj
 exact holds_lt hc hG p hp
theorem Names.lt' (h:Names B ids) {G:AHeap} {ok ok':Bool} {s s':σ} (hc:G.Closed) (hG:Holds G (B ok s)):∀ p∈B ok' s',p.1 < G.next:=fun p hp =>
 h.lt hc hG p.1 (by rw [←h.ids ok' s'];exact List.mem_map_of_mem hp)
theorem Names.puts (h:Names B ids) {G:AHeap} (ok ok':Bool) (s s':σ):puts (puts G (B ok s)) (B ok' s')=Go.Abs.puts G (B ok' s') :=
 puts_puts (by rw [h.ids,h.ids]) (by rw [h.ids];exact h.nodup)
theorem Names.holds (h:Names B ids) {G:AHeap} (ok:Bool) (s:σ):Holds (Go.Abs.puts G (B ok s)) (B ok s):=puts_holds _ (by rw [h.ids];exact h.nodup)
theorem Names.closed (h:Names B ids) {G:AHeap} {ok:Bool} {s:σ} (hc:G.Closed) (hG:Holds G (B ok s)) {ok':Bool} {s':σ} (hl:∀ p∈B ok' s',p.2.low G.next):(Go.Abs.puts G (B ok' s')).Closed :=
 closed_puts hc fun p hp=>⟨h.lt' hc hG p hp,hl p hp⟩
theorem Names.get_ne (h:Names B ids) {G:AHeap} {j:Nat} (hj:j ∉ ids) (ok:Bool) (s:σ):(Go.Abs.puts G (B ok s)).get j=G.get j:=puts_get_ne _ (by rw [h.ids];exact hj)
end
end Go.Abs
