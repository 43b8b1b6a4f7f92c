/- One operation of the abstract view is one of the model: reading and making. -/
import Derived.Test.YtdppfcbeiplckaaGreatMA
import Derived.Great.FillDense
set_option linter.unusedVariables false
set_option linter.unusedSimpArgs false
namespace Go.Abs
open Go
theorem RepL.length {K:KW} {w:World}:∀ {as:List AV} {xs:List Value},RepL K w as xs→as.length=xs.length
 | [],_,h=>by rw [show _=[] from h];rfl
 | a::as,_,⟨y,ys,e,_,r⟩=>by rw [e,List.length_cons,List.length_cons,r.length]
theorem RepL.get {K:KW} {w:World}:∀ {as:List AV} {xs:List Value},RepL K w as xs→∀ {i:Nat} {a:AV},as[i]?=some a→∃ x,xs[i]?=some x∧Rep K w a x
 | [],_,_,i,a,h=>by simp at h
 | b::as,_,⟨y,ys,e,hr,r⟩,0,a,h=>by
  subst e;simp only [List.getElem?_cons_zero,Option.some.injEq] at h;subst h;exact ⟨y,rfl,hr⟩
 | b::as,_,⟨y,ys,e,hr,r⟩,i+1,a,h=>by
  subst e;simp only [List.getElem?_cons_succ] at h ⊢;exact r.get h
theorem RepL.append {K:KW} {w:World}:∀ {as bs:List AV} {xs ys:List Value},RepL K w as xs→RepL K w bs ys→RepL K w (as++bs) (xs++ys)
 | [],bs,xs,ys,h,k=>by rw [show xs=[] from h];exact k
 | a::as,bs,_,ys,⟨y,zs,e,hr,r⟩,k=>by subst e;exact ⟨y,zs++ys,rfl,hr,r.append k⟩
theorem RepL.take {K:KW} {w:World}:∀ {as:List AV} {xs:List Value} (n:Nat),RepL K w as xs→RepL K w (as.take n) (xs.take n)
 | _,_,0,_=>by simp [RepL]
 | [],_,n+1,h=>by rw [show _=[] from h];simp [RepL]
 | a::as,_,n+1,⟨y,zs,e,hr,r⟩=>by subst e;exact ⟨y,zs.take n,rfl,hr,r.take n⟩
theorem RepL.drop {K:KW} {w:World}:∀ {as:List AV} {xs:List Value} (n:Nat),RepL K w as xs→RepL K w (as.drop n) (xs.drop n)
 | _,_,0,h=>by simpa using h
 | [],_,n+1,h=>by rw [show _=[] from h];simp [RepL]
 | a::as,_,n+1,⟨y,zs,e,hr,r⟩=>by subst e;simpa using r.drop n
theorem RepL.map {α:Type} {K:KW} {w:World} {f:α→AV} {g:α→Value}:∀ {l:List α},(∀ x∈l,Rep K w (f x) (g x))→RepL K w (l.map f) (l.map g)
 | [],_=>rfl
 | x::l,h=>⟨g x,l.map g,rfl,h x (by simp),RepL.map fun y hy=>h y (by simp [hy])⟩
theorem RepL.vs (K:KW) (w:World):∀ l:List Value,RepL K w (l.map .v) l
 | []=>rfl
 | c::l=>⟨c,l,rfl,rfl,RepL.vs K w l⟩
theorem rep_ofValue (K:KW) (w:World) (c:Value):Rep K w (.ofValue c) c:=by
 cases c <;> first | exact rfl | exact ⟨_,rfl,RepL.vs K w _⟩
theorem aeval_rep {K:KW} {w:World} {env:Env} {tmps:Array Value} {ds:List Deferred} (h:∀ t,Rep K w (env t) (tmps.getD t undef)):∀ x,Rep K w (aeval env x) (Act.eval ⟨tmps,ds⟩ x)
 | .tmp t=>h t
 | .const c=>rep_ofValue K w c
 | .global _=>trivial
 | .func f=>⟨#[],rfl,rfl⟩
theorem one_oneCell {K:KW} {w:World} {a:AV} {x:Value} (h:a.one=true) (r:Rep K w a x):x.oneCell'=true:=by
 cases a <;> simp only [AV.one,Bool.false_eq_true] at h
 case v c=>rw [show x=c from r];exact h
 case slice=>obtain ⟨a,len,cap,rfl,_⟩:=r;rfl
 case ms=>obtain ⟨a,len,_,rfl,_⟩:=r;rfl
 case ref=>obtain ⟨a,_,rfl⟩:=r;rfl
 case iptr=>obtain ⟨a,_,rfl,_⟩:=r;rfl
 case map=>obtain ⟨a,_,rfl⟩:=r;rfl
 case fn=>obtain ⟨a,rfl,_⟩:=r;rfl
 case vec=>obtain ⟨a,cap,rfl,_⟩:=r;rfl
 case vref=>obtain ⟨ad,cap,_,_,rfl⟩:=r;rfl
 case view=>obtain ⟨a,cap,rfl,_⟩:=r;rfl
 case yld=>obtain ⟨a,_,rfl⟩:=r;rfl
 case stm=>obtain ⟨_,_,_,_,_,_,_,rfl⟩:=r;rfl
theorem RepL.one {K:KW} {w:World}:∀ {as:List AV} {xs:List Value},as.all (·.one)=true→RepL K w as xs→∀ x∈xs,x.oneCell'=true
 | [],_,_,h=>by rw [show _=[] from h];simp
 | a::as,_,ha,⟨y,ys,e,r,rs⟩=>by
  subst e
  simp only [List.all_cons,Bool.and_eq_true] at ha
  intro x hx
  rcases List.mem_cons.1 hx with rfl | hx
  ·exact one_oneCell ha.1 r
  ·exact rs.one ha.2 x hx
theorem celled_rep {K:KW} {w:World} {a:AV} {x:Value} {cs:List AV} (h:a.celled=some cs) (r:Rep K w a x):RepL K w cs x.cells.toList∧∀ y∈x.cells.toList,y.oneCell'=true:=by
 have one:∀ {a:AV} {x:Value},a.one=true→Rep K w a x→RepL K w [a] x.cells.toList∧∀ y∈x.cells.toList,y.oneCell'=true:=by
  intro a x ha r
  have h1:=one_oneCell ha r
  have h2:x.cells=#[x]:=by cases x <;> simp_all [Value.cells,Value.oneCell']
  rw [h2]
  exact ⟨⟨x,[],rfl,r,rfl⟩,by simpa using h1⟩
 cases a <;> simp only [AV.celled] at h
 case v c =>
  split at h
  ·rename_i hc;cases h;exact one (a:=.v c) hc r
  ·cases h
 case undef=>cases h
 case tuple=>cases h
 case agg l =>
  split at h
  ·rename_i hc;cases h
   obtain ⟨vs,rfl,r⟩:=r
   exact ⟨r,r.one hc⟩
  ·cases h
 all_goals (cases h;exact one rfl r)
def CellsAt (w:World) (b off:Nat) (xs:List Value):Prop:=∀ j v,xs[j]?=some v→w.cell? ⟨b,off+j,none⟩=some v
theorem addr_add (b off j:Nat):(⟨b,off,none⟩:Addr).add j=⟨b,off+j,none⟩:=by unfold Addr.add;split <;> simp_all
theorem CellsAt.of_block {w:World} {b:Nat} {c:Array Value} {e:TypeId} {fz:Nat × Nat} (h:w.heap[b]?=some (.cells c e fz)) (off:Nat):CellsAt w b off (c.toList.drop off):=by
 intro j v hv
 rw [List.getElem?_drop] at hv
 simp only [World.cell?,h]
 simpa using hv
theorem CellsAt.drop {w:World} {b off:Nat} {xs:List Value} (h:CellsAt w b off xs) (n:Nat):CellsAt w b (off+n) (xs.drop n):=by
 intro j v hv
 rw [List.getElem?_drop] at hv
 rw [Nat.add_assoc]
 exact h _ _ hv
theorem CellsAt.take {w:World} {b off:Nat} {xs:List Value} (h:CellsAt w b off xs) (n:Nat):CellsAt w b off (xs.take n):=by
 intro j v hv
 rw [List.getElem?_take] at hv
 split at hv
 ·exact h _ _ hv
 ·cases hv
theorem CellsAt.pre {w:World} {b off:Nat} {xs ys:List Value} (h:CellsAt w b off (xs++ys)):CellsAt w b off xs:=by
 intro j v hv
 have:j < xs.length:=by rcases Nat.lt_or_ge j xs.length with h | h;exact h;simp [List.getElem?_eq_none h] at hv
 exact h j v (by rw [List.getElem?_append_left this];exact hv)
theorem CellsAt.app {w:World} {b off:Nat} {xs ys:List Value} (h:CellsAt w b off xs) (k:CellsAt w b (off+xs.length) ys):CellsAt w b off (xs++ys):=by
 intro j v hv
 rcases Nat.lt_or_ge j xs.length with hj | hj
 ·rw [List.getElem?_append_left hj] at hv;exact h j v hv
 ·rw [List.getElem?_append_right hj] at hv
  have:=k _ _ hv
  rwa [show off+xs.length+(j - xs.length)=off+j by omega] at this
theorem RepCells.cells {K:KW} {w:World} {b:Nat}:∀ {as:List AV} {off:Nat},RepCells K w b off as→∃ xs,CellsAt w b off xs∧RepL K w as xs∧∀ x∈xs,x.oneCell'=true
 | [],off,_=>⟨[],by intro j v h;simp at h,rfl,by simp⟩
 | a::as,off,⟨⟨x,h1,h2,h3,h4⟩,r⟩=>by
  obtain ⟨xs,g1,g2,g3⟩:=r.cells
  refine ⟨x::xs,?_,⟨x,xs,rfl,h4,g2⟩,fun y hy=>?_⟩
  ·intro j v hv
   cases j with
   | zero=>simp only [List.getElem?_cons_zero,Option.some.injEq] at hv;subst hv;exact h1
   | succ j =>
    simp only [List.getElem?_cons_succ] at hv
    have:=g1 j v hv
    rwa [show off+1+j=off+(j+1) by omega] at this
  ·rcases List.mem_cons.1 hy with rfl | hy
   ·exact h3
   ·exact g3 y hy
theorem RepCells.of {K:KW} {w:World} {b:Nat}:∀ {as:List AV} {xs:List Value} {off:Nat},CellsAt w b off xs→RepL K w as xs→(∀ x∈xs,x.oneCell'=true)→(∀ o,off≤o→o < off+as.length→K.im b o)→RepCells K w b off as
 | [],_,_,_,_,_,_=>trivial
 | a::as,_,off,hc,⟨y,ys,e,r,rs⟩,h1,him=>by
  subst e
  refine ⟨⟨y,hc 0 y rfl,him off (Nat.le_refl _) (by simp),h1 y (by simp),r⟩,RepCells.of (fun j v hv=>?_) rs (fun x hx=>h1 x (by simp [hx])) (fun o h2 h3=>him o (by omega) (by simp;omega))⟩
  rw [show off+1+j=off+(j+1) by omega]
  exact hc (j+1) v (by simpa using hv)
theorem RepCells.drop {K:KW} {w:World} {b:Nat}:∀ {as:List AV} {off:Nat} (n:Nat),RepCells K w b off as→n≤as.length→RepCells K w b (off+n) (as.drop n)
 | _,_,0,h,_=>h
 | a::as,off,n+1,⟨_,r⟩,hn=>by
  have:=r.drop n (by simpa using hn)
  rwa [show off+1+n=off+(n+1) by omega] at this
theorem RepRows.get {K:KW} {w:World} {esz b:Nat}:∀ {rs:List (List AV)} {off:Nat},RepRows K w esz b off rs→∀ {i:Nat} {r:List AV},rs[i]?=some r→r.length=esz∧RepCells K w b (off+i * esz) r
 | [],_,_,i,r,h=>by simp at h
 | q::rs,off,⟨h1,h2,h3⟩,0,r,h=>by simp only [List.getElem?_cons_zero,Option.some.injEq] at h;subst h;exact ⟨h1,by simpa using h2⟩
 | q::rs,off,⟨h1,h2,h3⟩,i+1,r,h=>by
  simp only [List.getElem?_cons_succ] at h
  have:=h3.get h
  rwa [show off+esz+i * esz=off+(i+1) * esz by rw [Nat.succ_mul];omega] at this
theorem RepRows.drop {K:KW} {w:World} {esz b:Nat}:∀ {rs:List (List AV)} {off:Nat} (n:Nat),RepRows K w esz b off rs→RepRows K w esz b (off+n * esz) (rs.drop n)
 | _,_,0,h=>by simpa using h
 | [],_,n+1,h=>by simp [RepRows]
 | q::rs,off,n+1,⟨h1,h2,h3⟩=>by
  have:=h3.drop n
  rwa [show off+esz+n * esz=off+(n+1) * esz by rw [Nat.succ_mul];omega] at this
theorem RepRows.take {K:KW} {w:World} {esz b:Nat}:∀ {rs:List (List AV)} {off:Nat} (n:Nat),RepRows K w esz b off rs→RepRows K w esz b off (rs.take n)
 | _,_,0,h=>by simp [RepRows]
 | [],_,n+1,h=>by simp [RepRows]
 | q::rs,off,n+1,⟨h1,h2,h3⟩=>⟨h1,h2,h3.take n⟩
theorem RepRows.append {K:KW} {w:World} {esz b:Nat}:∀ {rs ss:List (List AV)} {off:Nat},RepRows K w esz b off rs→RepRows K w esz b (off+rs.length * esz) ss→RepRows K w esz b off (rs++ss)
 | [],ss,off,h,k=>by simpa using k
 | q::rs,ss,off,⟨h1,h2,h3⟩,k=>⟨h1,h2,h3.append (by rwa [show off+esz+rs.length * esz=off+(q::rs).length * esz by rw [List.length_cons,Nat.succ_mul];omega])⟩
theorem RepRows.flat {K:KW} {w:World} {esz b:Nat}:∀ {rs:List (List AV)} {off:Nat},RepRows K w esz b off rs→RepCells K w b off rs.flatten∧rs.flatten.length=rs.length * esz
 | [],_,_=>⟨trivial,by simp⟩
 | q::rs,off,⟨h1,h2,h3⟩=>by
  obtain ⟨g1,g2⟩:=h3.flat
  refine ⟨?_,by simp [h1,g2,Nat.succ_mul,Nat.add_comm]⟩
  have app:∀ {as bs:List AV} {off:Nat},RepCells K w b off as→RepCells K w b (off+as.length) bs→RepCells K w b off (as++bs):=by
   intro as
   induction as with
   | nil=>intro bs off _ k;simpa using k
   | cons a as ih=>intro bs off h k;exact ⟨h.1,ih h.2 (by rwa [show off+1+as.length=off+(a::as).length by simp;omega])⟩
  simpa using app h2 (by rw [h1];exact g1)
theorem RepRows.of_flat {K:KW} {w:World} {esz b:Nat}:∀ {rs:List (List AV)} {off:Nat},(∀ r∈rs,r.length=esz)→RepCells K w b off rs.flatten→RepRows K w esz b off rs
 | [],_,_,_=>trivial
 | q::rs,off,hl,h=>by
  have app:∀ {as bs:List AV} {off:Nat},RepCells K w b off (as++bs)→RepCells K w b off as∧RepCells K w b (off+as.length) bs:=by
   intro as
   induction as with
   | nil=>intro bs off k;exact ⟨trivial,by simpa using k⟩
   | cons a as ih=>intro bs off h;have:=ih h.2;exact ⟨⟨h.1,this.1⟩,by rw [show off+(a::as).length=off+1+as.length by simp;omega];exact this.2⟩
  have:=app (by simpa using h)
  have hq:=hl q (by simp)
  exact ⟨hq,this.1,RepRows.of_flat (fun r hr=>hl r (by simp [hr])) (by rw [←hq];exact this.2)⟩
theorem flat_row {z:Nat}:∀ {rows:List (List AV)} {row:Nat} {r:List AV},(∀ r∈rows,r.length=z)→rows[row]?=some r →
  ∃ a b,rows.flatten=a++(r++b)∧a.length=row * z∧(∀ r',(rows.set row r').flatten=a++(r'++b))
 | [],row,r,_,h=>by simp at h
 | q::rows,0,r,hz,h=>by
  simp only [List.getElem?_cons_zero,Option.some.injEq] at h
  subst h
  exact ⟨[],rows.flatten,by simp,by simp,fun r'=>by simp⟩
 | q::rows,row+1,r,hz,h=>by
  simp only [List.getElem?_cons_succ] at h
  obtain ⟨a,b,h1,h2,h3⟩:=flat_row (fun r hr=>hz r (by simp [hr])) h
  exact ⟨q++a,b,by simp [h1],by simp [h2,hz q (by simp),Nat.succ_mul,Nat.add_comm],fun r'=>by simp [h3]⟩
theorem flat_len {z:Nat}:∀ {rows:List (List AV)},(∀ r∈rows,r.length=z)→rows.flatten.length=rows.length * z
 | [],_=>by simp
 | q::rows,h=>by simp [flat_len (rows:=rows) fun r hr=>h r (by simp [hr]),h q (by simp),Nat.succ_mul,Nat.add_comm]
theorem flat_set {z row off:Nat} {rows:List (List AV)} {r cs:List AV} (hz:∀ r∈rows,r.length=z) (h:rows[row]?=some r) (hl:off+cs.length≤r.length) :
  (rows.set row (splice r off cs)).flatten=splice rows.flatten (row * z+off) cs∧row * z+off+cs.length≤rows.flatten.length:=by
 obtain ⟨a,b,h1,h2,h3⟩:=flat_row hz h
 rw [h3,h1]
 unfold splice
 have e1:(a++(r++b)).take (row * z+off)=a++r.take off:=by
  rw [←h2,List.take_append,List.take_of_length_le (by omega),Nat.add_sub_cancel_left,List.take_append_of_le_length (by omega)]
 have e2:(a++(r++b)).drop (row * z+off+cs.length)=r.drop (off+cs.length)++b:=by
  rw [←h2,Nat.add_assoc,List.drop_append,List.drop_of_length_le (by omega),Nat.add_sub_cancel_left,List.drop_append_of_le_length (by omega)];simp
 rw [e1,e2]
 exact ⟨by simp [List.append_assoc],by simp;omega⟩
section
variable {P:Program} {K:KW} {w:World} {H:AHeap}
theorem load_cells {t:TypeId} {k:Option Nat} {b off:Nat} {l:List AV} {xs:List Value} {a:AV} (hk:rdT P t=some k) (hc:CellsAt w b off xs) (hl:RepL K w l xs) (hr:readC k l=some a) :
  ∃ x,(loadVar t ⟨b,off,none⟩).run P w=.ok x w∧Rep K w a x:=by
 unfold rdT at hk
 cases hu:P.underlying t with
 | none=>simp [hu] at hk
 | some d =>
  cases hi:P.info? t with
  | none=>cases d <;> simp [hu,hi] at hk
  | some i =>
   have hund:=run_underlying hu w
   cases k with
   | none =>
    have hagg:(isAgg t).run P w=.ok false w:=by
     unfold isAgg;rw [Sem.run_bind,hund]
     cases d <;> simp_all
    cases l with
    | nil=>simp [readC] at hr
    | cons a' l =>
     simp only [readC,List.head?_cons,Option.some.injEq] at hr
     subst hr
     obtain ⟨y,ys,rfl,r,_⟩:=hl
     refine ⟨y,?_,r⟩
     have:=hc 0 y rfl
     simp only [Nat.add_zero] at this
     simp [loadVar,Sem.run_bind,hagg,run_load,this]
   | some n =>
    have hn:i.size=n∧(isAgg t).run P w=.ok true w:=by
     unfold isAgg;rw [Sem.run_bind,hund]
     cases d <;> simp_all
    simp only [readC] at hr
    split at hr
    ·rename_i hle
     simp only [Option.some.injEq] at hr
     subst hr
     have hlen:(xs.take n).length=n:=by rw [List.length_take,←hl.length];omega
     have hload:=run_loadCells_list (P:=P) w ⟨b,off,none⟩ (xs.take n) (fun j v hv=>by rw [addr_add];exact hc.take n j v hv)
     rw [hlen] at hload
     refine ⟨.agg (xs.take n).toArray,?_,_,rfl,by simpa using hl.take n⟩
     simp [loadVar,Sem.run_bind,hn.2,sizeOf,typeInfo,hi,hn.1,hload]
    ·cases hr
theorem blk_cells (hI:Inv K w H) {id:Nat} {l:List AV} (h:H.get id=some (.cells l)) :
  ∃ b c e,K.io id=some b∧w.heap[b]?=some (.cells c e (0,0))∧∃ pre rest,c.toList=pre++rest∧RepL K w l pre:=(hI.blk id _ h).2
def Gives (P:Program) (K:KW) (w:World) (H:AHeap) (Kn:AV→AHeap→Prop) (s:Sem Next):Prop :=
 ∃ x v w' K' H',(s.run P w=.ok (.value x) w'∨(s.run P w=.ok .skip w'∧x=undef))∧Ext K w H K' w' H'∧Rep K' w' v x∧Kn v H'
variable {Kn:AV→AHeap→Prop}
theorem Gives.pure (hI:Inv K w H) {s:Sem Value} {x:Value} {v:AV} (hr:s.run P w=.ok x w) (hv:Rep K w v x) (hk:Kn v H):Gives P K w H Kn (do pure (.value (←s))) :=
 ⟨x,v,w,K,H,.inl (by simp [Sem.run_bind,hr]),.refl hI,hv,hk⟩
theorem aLoad_sound (hI:Inv K w H) {t:TypeId} {a:AV} {x:Value} (ha:Rep K w a x) (h:aLoad P H Kn t a):Gives P K w H Kn (do pure (.value (←Instr.loadAt t x))):=by
 unfold aLoad at h
 split at h
 ·exact h.elim
 rename_i k hk
 split at h
 ·rename_i id off
  obtain ⟨b,hb,rfl⟩:=ha
  split at h
  ·rename_i l hl
   obtain ⟨b',c,e,h1,h2,pre,rest,h3,h4⟩:=blk_cells hI hl
   obtain rfl:b=b':=by rw [hb] at h1;simpa using h1
   unfold ret at h
   split at h
   ·rename_i v hv
    have hcs:=(CellsAt.of_block h2 0)
    rw [List.drop_zero,h3] at hcs
    have hcs2:=(hcs.pre).drop off
    rw [Nat.zero_add] at hcs2
    obtain ⟨y,hy,hr⟩:=load_cells hk hcs2 (h4.drop off) hv
    exact Gives.pure hI (x:=y) (by simp [Instr.loadAt,Instr.sureAddr,Sem.run_bind,hy]) hr h
   ·exact h.elim
  ·exact h.elim
 ·obtain ⟨b,off,rfl,hc⟩:=ha
  unfold ret at h
  split at h
  ·rename_i v hv
   obtain ⟨xs,g1,g2,_⟩:=hc.cells
   obtain ⟨y,hy,hr⟩:=load_cells hk g1 g2 hv
   exact Gives.pure hI (x:=y) (by simp [Instr.loadAt,Instr.sureAddr,Sem.run_bind,hy]) hr h
  ·exact h.elim
 ·rename_i id len z row off
  obtain ⟨ad,cap,hth,hsp,rfl⟩:=ha
  split at h
  ·rename_i len' z' rows hl
   obtain ⟨rfl,rfl,hz,h⟩:=h
   split at h
   ·rename_i r hr
    unfold ret at h
    split at h
    ·rename_i v hv
     obtain ⟨a1,cap1,q1,q2,q3,q4⟩:=(hI.blk _ _ hl).2
     obtain ⟨rfl,rfl⟩:a1=some ad∧cap1=cap:=by rw [hth] at q1;simpa [eq_comm] using q1
     obtain ⟨p1,p2,⟨c,e,p3,p4,pre,rest,p5,p6⟩,p7,p8⟩:=q4 ad rfl
     obtain ⟨a,b,h1,h2,_⟩:=flat_row hz hr
     have hcs:=(CellsAt.of_block p3 0)
     rw [List.drop_zero,p5] at hcs
     have hcs2:=(hcs.pre).drop (row * z'+off)
     rw [Nat.zero_add] at hcs2
     have hd:=p6.drop (row * z'+off)
     have hv':readC k ((rows.flatten).drop (row * z'+off))=some v:=by
      rw [h1,←h2,List.drop_append,List.drop_of_length_le (by omega),Nat.add_sub_cancel_left,List.nil_append,List.drop_append]
      unfold readC at hv ⊢
      cases k with
      | none =>
       simp only at hv ⊢
       cases hz:r.drop off with
       | nil=>rw [hz] at hv;cases hv
       | cons x xs=>rw [hz] at hv;simpa using hv
      | some n =>
       simp only at hv ⊢
       split at hv
       ·rename_i hn
        rw [if_pos (by simp only [List.length_append];omega),List.take_append_of_le_length hn];exact hv
       ·cases hv
     obtain ⟨y,hy,hr⟩:=load_cells hk hcs2 hd hv'
     rw [p2,Nat.zero_add]
     exact Gives.pure hI (x:=y) (by simp [Instr.loadAt,Instr.sureAddr,Sem.run_bind,hy]) hr h
    ·exact h.elim
   ·exact h.elim
  ·exact h.elim
 ·exact h.elim
theorem shape_cells {w w':World} {b:Nat} {c c':Array Value} {e:TypeId} {f f':Nat × Nat} (h:w.heap[b]?=some (.cells c e f)) (h':w'.heap[b]?=some (.cells c' e f')) (hs:c'.size=c.size):w'.shape? b=w.shape? b:=by
 simp [World.shape?,h,h',hs]
theorem chg_setRow {w:World} {b:Nat} {c c':Array Value} {e:TypeId} (h:w.heap[b]?=some (.cells c e (0,0))):Chg w (w.setRow b c') b (.cells c' e (0,0)) :=
 ⟨by simp,setRow_heap w b c c' e _ h,fun k hk=>setRow_other w b k c' hk,by simp,by simp,by simp⟩
theorem chg_settled (hI:Inv K w H) {id b:Nat} (hb:K.io id=some b) {w':World} {o:Obj} (hc:Chg w w' b o):Settled K w w' :=
 fun b' o' hb'=>cell_of_heap (hc.others b' (fun e=>hI.ioIm id b o' hb (e ▸ hb'))) _ _
theorem store_ext (hI:Inv K w H) {id b:Nat} {l l':List AV} {c c':Array Value} {e:TypeId} {pre' rest':List Value} (hb:K.io id=some b) (hl:H.get id=some (.cells l)) (h2:w.heap[b]?=some (.cells c e (0,0)))
  (hc':c'.toList=pre'++rest') (hsz:c'.size=c.size) (hr:RepL K w l' pre'):Ext K w H K (w.setRow b c') (H.upd id (.cells l')) :=
 Ext.write hI hb hl h2 (chg_setRow h2) (shape_cells h2 (chg_setRow h2).at_ hsz) (by simp) (by simp)
  ⟨b,c',e,hb,(chg_setRow h2).at_,pre',rest',hc',hr.mono (.refl K) (chg_settled hI hb (chg_setRow h2))⟩
theorem splice_rep {l cs:List AV} {off:Nat} {pre ys:List Value} (h:RepL K w l pre) (g:RepL K w cs ys):RepL K w (splice l off cs) (pre.take off++ys++pre.drop (off+ys.length)):=by
 unfold splice
 rw [g.length]
 exact ((h.take off).append g).append (h.drop _)
theorem aStore_sound (hI:Inv K w H) {t:TypeId} {a v:AV} {x y:Value} (ha:Rep K w a x) (hv:Rep K w v y) (h:aStore P H Kn t a v):Gives P K w H Kn (do Instr.storeAt t x y;pure .skip):=by
 unfold aStore at h
 split at h
 ·exact h.elim
 rename_i cs hcs
 obtain ⟨hsz,h⟩:=h
 split at h
 ·rename_i id off
  obtain ⟨b,hb,rfl⟩:=ha
  split at h
  ·rename_i l hl
   obtain ⟨b',c,e,h1,h2,pre,rest,h3,h4⟩:=blk_cells hI hl
   obtain rfl:b=b':=by rw [hb] at h1;simpa using h1
   obtain ⟨hle,hk⟩:=h
   obtain ⟨g1,g2⟩:=celled_rep hcs hv
   have hlen:y.cells.toList.length=cs.length:=g1.length.symm
   have hpre:=h4.length
   have hcsz:c.size=pre.length+rest.length:=by rw [←Array.length_toList,h3,List.length_append]
   have hst:=run_storeCells_at (P:=P) b off e y.cells.toList 0 c w h2 (by rw [hlen];omega) g2
   simp only [Nat.add_zero,hlen] at hst
   obtain ⟨i,hi⟩:∃ i,P.info? t=some i:=by
    cases hi:P.info? t with
    | none=>simp [szT,hi] at hsz
    | some i=>exact ⟨i,rfl⟩
   simp only [szT,hi,Option.map_some,Option.some.injEq] at hsz
   have hys:y.cells.size=i.size:=by rw [←Array.length_toList,hlen,hsz]
   have hrun:(do Instr.storeAt t (.pointer (some ⟨b,off,none⟩)) y;pure Next.skip:Sem Next).run P w=.ok .skip (w.setRow b (c.toList.take off++y.cells.toList++c.toList.drop (off+cs.length)).toArray):=by
    simp only [Instr.storeAt,Instr.sureAddr,storeVar,Sem.run_bind,Sem.run_pure,Result.andThen_ok,sizeOf,typeInfo,run_program,hi,hys,ne_eq,not_true,if_false,hst]
   refine ⟨undef,.undef,_,K,_,.inr ⟨hrun,rfl⟩,store_ext hI hb hl h2 (pre':=pre.take off++y.cells.toList++pre.drop (off+y.cells.toList.length)) (rest':=rest) ?_ ?_ (splice_rep h4 g1),trivial,hk⟩
   ·have h5:(pre++rest).take off=pre.take off:=List.take_append_of_le_length (by omega)
    have h6:(pre++rest).drop (off+cs.length)=pre.drop (off+cs.length)++rest:=List.drop_append_of_le_length (by omega)
    simp only [h3,hlen,h5,h6,List.append_assoc]
   ·simp only [List.size_toArray,List.length_append,List.length_take,List.length_drop,Array.length_toList,hlen]
    omega
  ·exact h.elim
 ·rename_i id len z row off
  obtain ⟨ad,cap,hth,hsp,rfl⟩:=ha
  split at h
  ·rename_i len' z' rows hl
   obtain ⟨rfl,rfl,hz,h⟩:=h
   split at h
   ·rename_i r hr
    obtain ⟨hle0,hk⟩:=h
    obtain ⟨a1,cap1,q1,q2,q3,q4⟩:=(hI.blk _ _ hl).2
    obtain ⟨rfl,rfl⟩:a1=some ad∧cap1=cap:=by rw [hth] at q1;simpa [eq_comm] using q1
    obtain ⟨p1,p2,⟨c,e,h2,p4,pre,rest,h3,h4⟩,p7,p8⟩:=q4 ad rfl
    obtain ⟨hfl,hle⟩:=flat_set hz hr hle0
    rw [p2,Nat.zero_add]
    generalize ho:row * z'+off=o at *
    obtain ⟨g1,g2⟩:=celled_rep hcs hv
    have hlen:y.cells.toList.length=cs.length:=g1.length.symm
    have hpre:=h4.length
    have hcsz:c.size=pre.length+rest.length:=by rw [←Array.length_toList,h3,List.length_append]
    have hst:=run_storeCells_at (P:=P) ad.block o e y.cells.toList 0 c w h2 (by rw [hlen];omega) g2
    simp only [Nat.add_zero,hlen] at hst
    obtain ⟨i,hi⟩:∃ i,P.info? t=some i:=by
     cases hi:P.info? t with
     | none=>simp [szT,hi] at hsz
     | some i=>exact ⟨i,rfl⟩
    simp only [szT,hi,Option.map_some,Option.some.injEq] at hsz
    have hys:y.cells.size=i.size:=by rw [←Array.length_toList,hlen,hsz]
    have hrun:(do Instr.storeAt t (.pointer (some ⟨ad.block,o,none⟩)) y;pure Next.skip:Sem Next).run P w=.ok .skip (w.setRow ad.block (c.toList.take o++y.cells.toList++c.toList.drop (o+cs.length)).toArray):=by
     simp only [Instr.storeAt,Instr.sureAddr,storeVar,Sem.run_bind,Sem.run_pure,Result.andThen_ok,sizeOf,typeInfo,run_program,hi,hys,ne_eq,not_true,if_false,hst]
    have hc'sz:((c.toList.take o++y.cells.toList++c.toList.drop (o+cs.length)).toArray).size=c.size:=by
     simp only [List.size_toArray,List.length_append,List.length_take,List.length_drop,Array.length_toList,hlen]
     omega
    refine ⟨undef,.undef,_,K,_,.inr ⟨hrun,rfl⟩,Ext.vecWrite (c:=(c.toList.take o++y.cells.toList++c.toList.drop (o+cs.length)).toArray) (e:=e) (l':=rows.set row (splice r off cs)) hI hl hth h2 (chg_setRow h2) (shape_cells h2 (chg_setRow h2).at_ hc'sz) hc'sz ?_,trivial,hk⟩
    refine ⟨pre.take o++y.cells.toList++pre.drop (o+y.cells.toList.length),rest,?_,?_⟩
    ·have h5:(pre++rest).take o=pre.take o:=List.take_append_of_le_length (by omega)
     have h6:(pre++rest).drop (o+cs.length)=pre.drop (o+cs.length)++rest:=List.drop_append_of_le_length (by omega)
     simp only [h3,hlen,h5,h6,List.append_assoc]
    ·rw [hfl]
     exact (splice_rep h4 g1).mono (.refl K) (fun b' o' hb'=>cell_of_heap ((chg_setRow h2).others b' (fun e=>nomatch (p7 o' (Nat.zero_le _) (e ▸ hb')).1)) _ _)
   ·exact h.elim
  ·exact h.elim
 ·exact h.elim
theorem newVar_ext (hI:Inv K w H) {c:Array Value} {e:TypeId} {l:List AV} (hl:RepL K w l c.toList) :
  Ext K w H (K.addIo H.next w.heap.size) (w.alloc (.cells c e)) (H.alloc (.cells l))∧Rep (K.addIo H.next w.heap.size) (w.alloc (.cells c e)) (.ref H.next 0) (.pointer (some ⟨w.heap.size,0,none⟩)):=by
 have hA:=Add.alloc w (.cells c e)
 have hle:KLe K (K.addIo H.next w.heap.size):=⟨fun i b h=>by
  simp only [KW.addIo];rw [if_neg (fun (e:i=H.next)=>by have:=(hI.ioLt i b h).1;omega)];exact h,fun _ _ h=>h,fun _ _ _ h=>h,fun _ _ _ h=>h⟩
 refine ⟨Ext.new hI hA rfl rfl rfl (fun _ _ _=>rfl) (by simp) ⟨w.heap.size,c,e,by simp [KW.addIo],hA.at_,c.toList,[],by simp,?_⟩,w.heap.size,by simp [KW.addIo],rfl⟩
 exact hl.mono hle (Add.step hI hA hle).settled
theorem fillVar_ext (hI:Inv K w H) {id:Nat} (hid:H.get id=some .hole) {w':World} {c:Array Value} {e:TypeId} {l:List AV} (hA:Add w w' (.cells c e (0,0))) (hl:RepL K w l c.toList) :
  Ext K w H (K.addIo id w.heap.size) w' (H.upd id (.cells l)):=by
 have hno:K.io id=none:=(hI.blk id _ hid).2
 have hle:KLe K (K.addIo id w.heap.size):=⟨fun i b h=>by
  simp only [KW.addIo];rw [if_neg (fun (e:i=id)=>by subst e;rw [hno] at h;cases h)];exact h,fun _ _ h=>h,fun _ _ _ h=>h,fun _ _ _ h=>h⟩
 refine Ext.fill hI hA hid rfl rfl rfl rfl (by simp) ⟨w.heap.size,c,e,by simp [KW.addIo],hA.at_,c.toList,[],by simp,?_⟩
 exact hl.mono hle (Add.step hI hA hle).settled
theorem tokL_rep {t:Nat} (ht:K.th t 0=some (none,0)):∀ {as bs:List AV} {xs:List Value},tokL t as=some bs→RepL K w as xs→RepL K w bs xs
 | [],bs,xs,h,_=>by simp [tokL] at h
 | a::as,bs,xs,h,⟨y,ys,e,hr,r⟩=>by
  unfold tokL at h
  split at h
  ·cases ‹_=_›
  ·rename_i cs heq
   simp only [List.cons.injEq] at heq
   obtain ⟨rfl,rfl⟩:=heq
   simp only [Option.some.injEq] at h
   subst h
   refine ⟨y,ys,e,⟨none,0,0,hr,rfl,Nat.le_refl _,fun _=>rfl,fun t' h'=>?_,fun h=>absurd rfl h⟩,r⟩
   obtain rfl:t=t':=by simpa using h'
   exact ht
  ·rename_i c cs _ heq
   simp only [List.cons.injEq] at heq
   obtain ⟨rfl,rfl⟩:=heq
   simp only [Option.map_eq_some_iff] at h
   obtain ⟨ds,h1,rfl⟩:=h
   exact ⟨y,ys,e,hr,tokL_rep ht h1 r⟩
theorem tokAV_rep {t:Nat} (ht:K.th t 0=some (none,0)) {a b:AV} {x:Value} (h:tokAV t a=some b) (hr:Rep K w a x):Rep K w b x:=by
 unfold tokAV at h
 split at h
 ·simp only [Option.some.injEq] at h
  subst h
  refine ⟨none,0,0,hr,rfl,Nat.le_refl _,fun _=>rfl,fun t' h'=>?_,fun h=>absurd rfl h⟩
  obtain rfl:t=t':=by simpa using h'
  exact ht
 ·simp only [Option.map_eq_some_iff] at h
  obtain ⟨ds,h1,rfl⟩:=h
  obtain ⟨vs,e,r⟩:=hr
  exact ⟨vs,e,tokL_rep ht h1 r⟩
 ·cases h
theorem isNilS_eq {c:AV} (h:isNilS c=true):c=.v (.slice none 0 0):=by
 unfold isNilS at h;split at h
 ·rfl
 ·cases h
theorem nilsW_sound:∀ (cs:List AV) (l:List (Nat × Bool)) {K:KW} {H:AHeap} {xs:List Value} {Kn:List AV→AHeap→Prop},Inv K w H→RepL K w cs xs→nilsW cs l Kn H →
  ∃ K' H' cs',Ext K w H K' w H'∧RepL K' w cs' xs∧Kn cs' H'
 | [],l,K,H,xs,Kn,hI,hr,h=>⟨K,H,[],.refl hI,hr,h⟩
 | c::cs,l,K,H,_,Kn,hI,⟨y,ys,e,hr,r⟩,h=>by
  subst e
  unfold nilsW at h
  split at h
  ·rename_i z b l' hc
   rw [isNilS_eq hc] at hr
   obtain rfl:y=.slice none 0 0:=hr
   have hX:=Ext.nilTok (esz:=z) (if b=true then some [] else none) (by cases b <;> simp [ownNil]) hI
   obtain ⟨K',H',cs',g1,g2,g3⟩:=nilsW_sound cs l' hX.inv (RepL.mono hX.step.le hX.step.settled _ _ r) h
   refine ⟨K',H',(if b=true then .vec H.next 0 else .slice [] (some H.next))::cs',hX.trans g1,⟨_,_,rfl,?_,g2⟩,g3⟩
   refine Rep.mono g1.step.le g1.step.settled _ _ ?_
   cases b
   ·exact ⟨none,0,0,rfl,rfl,Nat.le_refl _,fun _=>rfl,fun t' h'=>by
     obtain rfl:H.next=t':=by simpa using h'
     simp [KW.addTh],fun h=>absurd rfl h⟩
   ·exact ⟨none,0,rfl,Nat.le_refl _,fun _=>rfl,by simp [KW.addTh],by simp⟩
  ·obtain ⟨K',H',cs',g1,g2,g3⟩:=nilsW_sound cs _ hI r h
   exact ⟨K',H',c::cs',g1,⟨_,_,rfl,Rep.mono g1.step.le g1.step.settled _ _ hr,g2⟩,g3⟩
theorem Gives.tok {md:Nat→Mode} {d:Option Nat} {s:Sem Next} (h:Gives P K w H (tokW md d Kn) s):Gives P K w H Kn s:=by
 obtain ⟨x,v,w',K',H',hr,hE,hv,hk⟩:=h
 unfold tokW at hk
 split at hk
 ·exact ⟨x,v,w',K',H',hr,hE,hv,hk⟩
 ·split at hk
  ·rename_i z _
   split at hk
   ·rename_i v' hv'
    have hX:=Ext.nilTok (esz:=z) none trivial hE.inv
    exact ⟨x,v',w',_,_,hr,hE.trans hX,tokAV_rep (by simp [KW.addTh]) hv' (hv.mono hX.step.le hX.step.settled),hk⟩
   ·exact ⟨x,v,w',K',H',hr,hE,hv,hk⟩
  ·rename_i z _
   split at hk
   ·obtain rfl:x=.slice none 0 0:=hv
    have hX:=Ext.nilTok (esz:=z) (some []) rfl hE.inv
    exact ⟨_,.vec H'.next 0,w',_,_,hr,hE.trans hX,⟨none,0,rfl,Nat.le_refl _,fun _=>rfl,by simp [KW.addTh],by simp⟩,hk⟩
   ·exact ⟨x,v,w',K',H',hr,hE,hv,hk⟩
  ·split at hk
   ·rename_i id len
    split at hk
    ·rename_i len' z rows hg
     obtain ⟨rfl,h1,h2,hk⟩:=hk
     obtain ⟨a,cap,e,g1,g2,g3,g4⟩:=hv
     have hX:=Ext.freeze hE.inv hg g3
     refine ⟨x,_,w',_,_,hr,hE.trans hX,?_,hk⟩
     subst e
     refine ⟨a,len',cap,rfl,h1.symm,g1,g2,fun t ht=>?_,fun hne=>?_⟩
     ·obtain rfl:id=t:=by simpa using ht
      rw [h1];cases a <;> exact g3
     ·obtain ⟨a1,cap1,q1,q2,q3,q4⟩:=(hE.inv.blk _ _ hg).2
      obtain ⟨rfl,rfl⟩:a1=a∧cap1=cap:=by rw [g3] at q1;simpa [eq_comm] using q1
      cases a1 with
      | none=>exact absurd (q3 rfl).2 hne
      | some ad =>
       obtain ⟨p1,p2,⟨c,e,p3,p4,pre,rest,p5,p6⟩,p7,p8⟩:=q4 ad rfl
       refine ⟨ad,z,rfl,p1,?_⟩
       rw [p2]
       have hall:rows.flatten.all (·.one)=true:=by
        rw [List.all_eq_true]
        intro x hx
        obtain ⟨r,hr,hx⟩:=List.mem_flatten.1 hx
        exact List.all_eq_true.1 (h2 r hr).2 x hx
       have hfl:=flat_len fun r hr=>(h2 r hr).1
       have hcs:=(CellsAt.of_block p3 0)
       rw [List.drop_zero,p5] at hcs
       refine RepRows.of_flat (fun r hr=>(h2 r hr).1) (RepCells.of hcs.pre (p6.mono hX.step.le hX.step.settled) (RepL.one hall p6) fun o ho1 ho2=>?_)
       rw [Nat.zero_add,hfl,h1] at ho2
       exact .inr ⟨rfl,Nat.zero_le _,ho2⟩
    ·exact hk.elim
   ·exact ⟨x,v,w',K',H',hr,hE,hv,hk⟩
  ·split at hk
   ·obtain ⟨vs,e,r⟩:=hv
    obtain ⟨K2,H2,cs',g1,g2,g3⟩:=nilsW_sound _ _ hE.inv r hk
    exact ⟨x,.agg cs',w',K2,H2,hr,hE.trans g1,⟨vs,e,g2⟩,g3⟩
   ·exact ⟨x,v,w',K',H',hr,hE,hv,hk⟩
  ·exact ⟨x,v,w',K',H',hr,hE,hv,hk⟩
theorem aAlloc_sound (hI:Inv K w H) {md:Nat→Mode} {d:Option Nat} {t:TypeId} (h:aAlloc P md H Kn d t) :
  Gives P K w H Kn (do pure (.value (←Instr.alloc t true (.tuple #[])))):=by
 unfold aAlloc at h
 split at h
 ·exact h.elim
 rename_i z hz
 obtain ⟨i,hi,hz'⟩:∃ i,P.info? t=some i∧i.zero=some z:=by
  unfold zeroT at hz
  cases hi:P.info? t with
  | none=>simp [hi] at hz
  | some i=>exact ⟨i,rfl,by simpa [hi] using hz⟩
 split at h
 ·split at h
  ·rename_i n _ _ cs hcs
   have hX:=Ext.nilTok (esz:=n) none trivial hI
   obtain ⟨g1,g2⟩:=newVar_ext (e:=t) hX.inv (tokL_rep (by simp [KW.addTh]) hcs (RepL.vs _ w z.cells.toList))
   refine ⟨_,_,_,_,_,.inl ?_,hX.trans g1,g2,h⟩
   simp [Instr.alloc,newVar,newRow,zeroValue,typeInfo,hi,hz',Sem.run_bind]
  ·exact h.elim
 ·split at h
  ·rename_i n _ _ hcs
   have hX:=Ext.nilTok (esz:=n) (some []) rfl hI
   have hz1:z.cells=#[.slice none 0 0]:=by rw [←Array.toList_inj];exact hcs
   obtain ⟨g1,g2⟩:=newVar_ext (e:=t) (l:=[.vec H.next 0]) (c:=z.cells) hX.inv (by
    rw [hz1]
    exact ⟨_,[],rfl,⟨none,0,rfl,Nat.le_refl _,fun _=>rfl,by simp [KW.addTh],fun _ h=>by cases h⟩,rfl⟩)
   refine ⟨_,_,_,_,_,.inl ?_,hX.trans g1,g2,h⟩
   simp [Instr.alloc,newVar,newRow,zeroValue,typeInfo,hi,hz',Sem.run_bind]
  ·exact h.elim
 ·obtain ⟨id,hid,h⟩:=h
  have g1:=fillVar_ext hI hid (Add.alloc w (.cells z.cells t)) (RepL.vs K w z.cells.toList)
  refine ⟨.pointer (some ⟨w.heap.size,0,none⟩),.ref id 0,_,_,_,.inl ?_,g1,⟨w.heap.size,by simp [KW.addIo],rfl⟩,h⟩
  simp [Instr.alloc,newVar,newRow,zeroValue,typeInfo,hi,hz',Sem.run_bind]
 ·obtain ⟨g1,g2⟩:=newVar_ext (e:=t) hI (RepL.vs K w z.cells.toList)
  refine ⟨_,_,_,_,_,.inl ?_,g1,g2,h⟩
  simp [Instr.alloc,newVar,newRow,zeroValue,typeInfo,hi,hz',Sem.run_bind]
theorem aBox_sound (hI:Inv K w H) {t:TypeId} {a:AV} {x:Value} (ha:Rep K w a x) (h:match a.celled with | some cs=>Kn (.ref H.next 0) (H.alloc (.cells cs)) | none=>False) :
  Gives P K w H Kn (do pure (.value (←Instr.box t x))):=by
 split at h
 ·rename_i cs hcs
  obtain ⟨g1,g2⟩:=newVar_ext (e:=t) hI (celled_rep hcs ha).1
  exact ⟨_,_,_,_,_,.inl (by simp [Instr.box,newVar,newRow,Sem.run_bind]),g1,g2,h⟩
 ·exact h.elim
theorem aFieldAddr_sound (hI:Inv K w H) {s:TypeId} {a:AV} {x:Value} {f:Nat} (ha:Rep K w a x) (h:aFieldAddr P H Kn s a f):Gives P K w H Kn (do pure (.value (←Instr.fieldAt s x f))):=by
 unfold aFieldAddr at h
 split at h
 ·exact h.elim
 rename_i o ho
 unfold fldT at ho
 split at ho
 ·rename_i fs hu
  split at ho
  ·rename_i fd hf
   split at ho
   ·rename_i i hi
    split at ho
    ·cases ho
    ·rename_i hsz
     simp only [Option.some.injEq] at ho
     have hrun:∀ b off,(Instr.fieldAt s (.pointer (some ⟨b,off,none⟩)) f).run P w=.ok (.pointer (some ⟨b,off+o,none⟩)) w:=by
      intro b off
      simp [Instr.fieldAt,Sem.run_bind,run_underlying hu w,hf,Instr.sureAddr,fieldPlace,sizeOf,typeInfo,hi,hsz,addr_add,ho]
     split at h
     ·obtain ⟨b,hb,rfl⟩:=ha
      exact Gives.pure hI (v:=.ref _ _) (hrun b _) ⟨b,hb,rfl⟩ h
     ·obtain ⟨b,off,rfl,hc⟩:=ha
      exact Gives.pure hI (v:=.iptr _) (hrun b _) ⟨b,off+o,rfl,hc.drop o h.1⟩ h.2
     ·obtain ⟨ad,cap,h1,h2,rfl⟩:=ha
      exact Gives.pure hI (v:=.vref _ _ _ _ _) (hrun _ _) ⟨ad,cap,h1,h2,by simp only [Nat.add_assoc]⟩ h
     ·exact h.elim
   ·cases ho
  ·cases ho
 ·cases ho
theorem part_sound {t:TypeId} {k:Option Nat} {l:List AV} {xs:Array Value} {off:Nat} {a:AV} (hk:rdT P t=some k) (hl:RepL K w l xs.toList) (hr:readC k (l.drop off)=some a) :
  ∃ x,(part t xs off).run P w=.ok x w∧Rep K w a x:=by
 unfold rdT at hk
 cases hu:P.underlying t with
 | none=>simp [hu] at hk
 | some d =>
  cases hi:P.info? t with
  | none=>cases d <;> simp [hu,hi] at hk
  | some i =>
   have hund:=run_underlying hu w
   cases k with
   | none =>
    have hagg:(isAgg t).run P w=.ok false w:=by
     unfold isAgg;rw [Sem.run_bind,hund]
     cases d <;> simp_all
    simp only [readC,List.head?_drop] at hr
    obtain ⟨y,hy,r⟩:=hl.get hr
    have hy':xs[off]?=some y:=by simpa using hy
    exact ⟨y,by simp [part,Sem.run_bind,hagg,hy'],r⟩
   | some n =>
    have hn:i.size=n∧(isAgg t).run P w=.ok true w:=by
     unfold isAgg;rw [Sem.run_bind,hund]
     cases d <;> simp_all
    simp only [readC] at hr
    split at hr
    ·simp only [Option.some.injEq] at hr
     subst hr
     refine ⟨.agg (xs.extract off (off+n)),by simp [part,Sem.run_bind,hn.2,sizeOf,typeInfo,hi,hn.1],_,rfl,?_⟩
     have:=(hl.drop off).take n
     rw [Array.toList_extract,List.extract_eq_take_drop,Nat.add_sub_cancel_left]
     exact this
    ·cases hr
theorem aField_sound (hI:Inv K w H) {s:TypeId} {a:AV} {x:Value} {f:Nat} (ha:Rep K w a x) (h:aField P H Kn s a f):Gives P K w H Kn (do pure (.value (←Instr.field s x f))):=by
 unfold aField at h
 split at h
 ·rename_i o k cs hf
  obtain ⟨vs,rfl,hl⟩:=ha
  unfold fldV at hf
  split at hf
  ·rename_i fs hu
   split at hf
   ·rename_i fd hfd
    simp only [Option.map_eq_some_iff,Prod.mk.injEq] at hf
    obtain ⟨k',hk,rfl,rfl⟩:=hf
    unfold ret at h
    split at h
    ·rename_i v hv
     obtain ⟨y,hy,r⟩:=part_sound hk hl hv
     exact Gives.pure hI (x:=y) (by simp [Instr.field,Sem.run_bind,run_underlying hu w,hfd,asAgg,hy]) r h
    ·exact h.elim
   ·cases hf
  ·cases hf
 ·exact h.elim
end
end Go.Abs
namespace Go.Abs
open Go
section
variable {P:Program} {K:KW} {w:World} {H:AHeap} {Kn:AV→AHeap→Prop}
theorem int_run {op:BinOp} {t:TypeId} {k:IntKind} {a b:Int} {r:Value} (h:intOp op k a b=some r):(binOp op t (.int k a) (.int k b)).run P w=.ok r w:=by
 cases op <;> simp only [intOp,Option.some.injEq,reduceCtorEq] at h <;> try (subst h;unfold binOp;simp [Op.intArith,Op.intCmp];done)
 all_goals (split at h;· cases h)
 all_goals (rename_i hb;simp only [Option.some.injEq] at h;subst h;unfold binOp;simp [Op.intDiv,hb])
theorem ba_beq (a b:ByteArray):(a == b)=decide (a=b):=by
 cases a with | mk x=>cases b with | mk y =>
 have h:((⟨x⟩:ByteArray) == ⟨y⟩)=(x == y):=rfl
 rw [h,Bool.eq_iff_iff]
 simp
theorem ba_list (a b:ByteArray):(a.toList == b.toList)=decide (a=b):=by
 rw [Bool.eq_iff_iff]
 simp only [beq_iff_eq,decide_eq_true_eq,ByteArray.toList_eq,Array.toList_inj]
 exact ⟨fun h=>ByteArray.ext h,fun h=>by rw [h]⟩
theorem str_run {op:BinOp} {t:TypeId} {a b:ByteArray} {r:Value} (h:strOp op a b=some r):(binOp op t (.string a) (.string b)).run P w=.ok r w:=by
 cases op <;> simp only [strOp,Option.some.injEq,reduceCtorEq] at h <;> subst h <;> unfold binOp <;> simp [Op.stringOp,ba_list]
theorem guard_run {op:BinOp} {t:TypeId} {x y:Operand} {a b:Value} (h1:∀ cs,a≠.agg cs) (h2:a≠.nilIface):(eqGuard op t x y a b).run P w=.ok () w:=by
 have key:(match a,b with
   | .nilIface, .nilIface => (stuck "" : Sem Unit)
   | .agg _, .agg _ => stuck ""
   | _,_=>pure ())=pure ():=by
  cases a <;> first | rfl | (exfalso;exact h1 _ rfl) | (exfalso;exact h2 rfl) | (cases b <;> rfl)
 cases op <;> first | rfl | (cases a <;> first | rfl | (exfalso;exact h1 _ rfl) | (exfalso;exact h2 rfl) | (cases b <;> rfl))
theorem ptr_desc {t:TypeId} (h:isPtrT P t=true):∃ e,P.underlying t=some (.pointer e):=by
 unfold isPtrT at h;split at h
 ·exact ⟨_,by assumption⟩
 ·cases h
theorem ptr_nil_at (d:Nat) {t e:TypeId} {a:Option Addr} (he:P.underlying t=some (.pointer e)):(Op.equalIn (d+1) t (.pointer a) (.pointer none)).run P w=.ok (a.isNone) w:=by
 cases a <;> simp [Op.equalIn,Sem.run_bind,run_underlying he w]
theorem ptr_nil {op:BinOp} {t:TypeId} {a:Option Addr} (h:isPtrT P t=true) (ho:op=.eql∨op=.neq):(binOp op t (.pointer a) (.pointer none)).run P w=.ok (.bool (if op=.eql then a.isNone else !a.isNone)) w:=by
 obtain ⟨e,he⟩:=ptr_desc h
 have:=ptr_nil_at (w:=w) (a:=a) 9999 he
 rcases ho with rfl | rfl
 ·simp only [binOp,Op.equal,Op.maxDepth,Sem.run_bind,this,Result.andThen_ok,Sem.run_pure,if_true]
 ·simp only [binOp,Op.equal,Op.maxDepth,Sem.run_bind,this,Result.andThen_ok,Sem.run_pure]
  simp
theorem slice_nil_at (d:Nat) {t e:TypeId} {a:Option Addr} {l c:Nat} (he:P.underlying t=some (.slice e)):(Op.equalIn (d+1) t (.slice a l c) (.slice none 0 0)).run P w=.ok (a.isNone) w:=by
 cases a <;> simp [Op.equalIn,Sem.run_bind,run_underlying he w]
theorem slice_nil {op:BinOp} {t:TypeId} {a:Option Addr} {l c:Nat} (h:isSliceT P t=true) (ho:op=.eql∨op=.neq):(binOp op t (.slice a l c) (.slice none 0 0)).run P w=.ok (.bool (if op=.eql then a.isNone else !a.isNone)) w:=by
 obtain ⟨e,he⟩:∃ e,P.underlying t=some (.slice e):=by
  unfold isSliceT at h;split at h
  ·exact ⟨_,by assumption⟩
  ·cases h
 have:=slice_nil_at (w:=w) (a:=a) (l:=l) (c:=c) 9999 he
 rcases ho with rfl | rfl
 ·simp only [binOp,Op.equal,Op.maxDepth,Sem.run_bind,this,Result.andThen_ok,Sem.run_pure,if_true]
 ·simp only [binOp,Op.equal,Op.maxDepth,Sem.run_bind,this,Result.andThen_ok,Sem.run_pure]
  simp
theorem bool_eq_at (d:Nat) {t:TypeId} {a b:Bool} (he:P.underlying t=some .bool):(Op.equalIn (d+1) t (.bool a) (.bool b)).run P w=.ok (a == b) w:=by
 simp [Op.equalIn,Sem.run_bind,run_underlying he w]
theorem bool_run {op:BinOp} {t:TypeId} {a b:Bool} (he:P.underlying t=some .bool) (ho:op=.eql∨op=.neq):(binOp op t (.bool a) (.bool b)).run P w=.ok (.bool (if op=.eql then a == b else !(a == b))) w:=by
 have:=bool_eq_at (w:=w) (a:=a) (b:=b) 9999 he
 rcases ho with rfl | rfl
 ·simp only [binOp,Op.equal,Op.maxDepth,Sem.run_bind,this,Result.andThen_ok,Sem.run_pure,if_true]
 ·simp only [binOp,Op.equal,Op.maxDepth,Sem.run_bind,this,Result.andThen_ok,Sem.run_pure]
  simp
theorem aBin_sound (hI:Inv K w H) {op:BinOp} {t:TypeId} {x y:Operand} {a b:AV} {u v:Value} (ha:Rep K w a u) (hb:Rep K w b v) (h:aBin P H Kn op t a b) :
  Gives P K w H Kn (do pure (.value (←(do eqGuard op t x y u v;binOp op t u v)))):=by
 unfold aBin at h
 split at h
 ·rename_i k a j b
  obtain ⟨rfl,h⟩:=h
  rw [show u=_ from ha,show v=_ from hb]
  unfold ret at h
  split at h
  ·rename_i r hr
   simp only [Option.map_eq_some_iff] at hr
   obtain ⟨c,hc,rfl⟩:=hr
   exact Gives.pure hI (v:=.v c) (by rw [Sem.run_bind,guard_run (by simp) (by simp),Result.andThen_ok,int_run hc]) rfl h
  ·exact h.elim
 ·rename_i a b
  rw [show u=_ from ha,show v=_ from hb]
  split at h
  ·refine Gives.pure hI (v:=.v (.string (a++b))) ?_ rfl h.2
   rw [Sem.run_bind,guard_run (by simp) (by simp),Result.andThen_ok]
   have:¬ ((a.size+b.size:Nat):Int) > IntKind.i64.max:=by
    have:=h.1;simp [IntKind.max,IntKind.bits,IntKind.signed];omega
   unfold binOp;simp only [Op.stringOp,this,if_false,Sem.run_pure]
  ·unfold ret at h
   split at h
   ·rename_i r hr
    simp only [Option.map_eq_some_iff] at hr
    obtain ⟨c,hc,rfl⟩:=hr
    exact Gives.pure hI (v:=.v c) (by rw [Sem.run_bind,guard_run (by simp) (by simp),Result.andThen_ok,str_run hc]) rfl h
   ·exact h.elim
 ·rename_i a b
  rw [show u=_ from ha,show v=_ from hb]
  split at h
  ·rename_i hu
   exact Gives.pure hI (v:=.v (.bool (a == b))) (by rw [Sem.run_bind,guard_run (by simp) (by simp),Result.andThen_ok];rw [bool_run hu (by simp)];simp) rfl h
  ·rename_i hu
   exact Gives.pure hI (v:=.v (.bool (!(a == b)))) (by rw [Sem.run_bind,guard_run (by simp) (by simp),Result.andThen_ok];rw [bool_run hu (by simp)];simp) rfl h
  ·exact h.elim
 ·obtain ⟨b',hb',rfl⟩:=ha
  rw [show v=_ from hb]
  split at h
  ·rename_i hp
   exact Gives.pure hI (v:=.v (.bool false)) (by rw [Sem.run_bind,guard_run (by simp) (by simp),Result.andThen_ok];rw [ptr_nil hp (by simp)];simp) rfl h
  ·rename_i hp
   exact Gives.pure hI (v:=.v (.bool true)) (by rw [Sem.run_bind,guard_run (by simp) (by simp),Result.andThen_ok];rw [ptr_nil hp (by simp)];simp) rfl h
  ·exact h.elim
 ·rw [show u=_ from ha,show v=_ from hb]
  split at h
  ·rename_i hp
   exact Gives.pure hI (v:=.v (.bool true)) (by rw [Sem.run_bind,guard_run (by simp) (by simp),Result.andThen_ok];rw [ptr_nil hp (by simp)];simp) rfl h
  ·rename_i hp
   exact Gives.pure hI (v:=.v (.bool false)) (by rw [Sem.run_bind,guard_run (by simp) (by simp),Result.andThen_ok];rw [ptr_nil hp (by simp)];simp) rfl h
  ·exact h.elim
 ·obtain ⟨a,len,cap,rfl,_,_,_,_,h5⟩:=ha
  obtain ⟨ad,_,rfl,_⟩:=h5 (by simp)
  rw [show v=_ from hb]
  split at h
  ·rename_i hp
   exact Gives.pure hI (v:=.v (.bool false)) (by rw [Sem.run_bind,guard_run (by simp) (by simp),Result.andThen_ok];rw [slice_nil hp (by simp)];simp) rfl h
  ·rename_i hp
   exact Gives.pure hI (v:=.v (.bool true)) (by rw [Sem.run_bind,guard_run (by simp) (by simp),Result.andThen_ok];rw [slice_nil hp (by simp)];simp) rfl h
  ·exact h.elim
 ·rename_i a c
  rw [show u=_ from ha,show v=_ from hb]
  split at h
  ·rename_i hp
   exact Gives.pure hI (v:=.v (.bool a.isNone)) (by rw [Sem.run_bind,guard_run (by simp) (by simp),Result.andThen_ok];rw [slice_nil hp (by simp)];simp) rfl h
  ·rename_i hp
   exact Gives.pure hI (v:=.v (.bool (!a.isNone))) (by rw [Sem.run_bind,guard_run (by simp) (by simp),Result.andThen_ok];rw [slice_nil hp (by simp)];simp) rfl h
  ·exact h.elim
 ·exact h.elim
theorem aUn_sound (hI:Inv K w H) {op:UnOp} {a:AV} {x:Value} (ha:Rep K w a x) (h:aUn H Kn op a):Gives P K w H Kn (do pure (.value (←Op.unary op x))):=by
 unfold aUn at h
 split at h
 ·rename_i b;rw [show x=_ from ha];exact Gives.pure hI (v:=.v (.bool (!b))) rfl rfl h
 ·rename_i k n;rw [show x=_ from ha];exact Gives.pure hI (v:=.v (.int k (k.wrap (0 - n)))) rfl rfl h
 ·exact h.elim
theorem aConv_sound (hI:Inv K w H) {src dst:TypeId} {a:AV} {x:Value} (ha:Rep K w a x) (h:aConv P H Kn src dst a):Gives P K w H Kn (do pure (.value (←convert src dst x))):=by
 unfold aConv at h
 split at h
 ·rename_i d rows tk h1 h2
  obtain ⟨hb,h⟩:=h
  unfold isBytesT at hb
  split at hb
  rotate_left
  ·cases hb
  rename_i e he
  split at hb
  rotate_left
  ·cases hb
  rename_i hu8
  split at h
  rotate_left
  ·exact h.elim
  rename_i xs hxs
  refine Gives.pure hI (v:=.v (.string (strOfNums xs))) ?_ rfl h
  obtain ⟨a,len,cap,rfl,rfl,hlc,hnone,_,h5⟩:=ha
  have hlen:∀ (rows:List (List AV)) (xs:List Int),bytesR rows=some xs→rows.length=xs.length∧∀ i,i < xs.length→rows[i]?=some [.v (.int .u8 (xs.getD i 0))]:=by
   intro rows
   induction rows with
   | nil=>intro xs h;simp only [bytesR,Option.some.injEq] at h;subst h;simp
   | cons r rs ih =>
    intro xs h
    unfold bytesR at h
    split at h
    ·rename_i heq;cases heq
    ·rename_i n rs' heq
     simp only [List.cons.injEq] at heq
     obtain ⟨rfl,rfl⟩:=heq
     simp only [Option.map_eq_some_iff] at h
     obtain ⟨ys,h1,rfl⟩:=h
     obtain ⟨g1,g2⟩:=ih ys h1
     refine ⟨by simp [g1],fun i hi=>?_⟩
     cases i with
     | zero=>simp
     | succ i=>simpa using g2 i (by simpa using hi)
    ·cases h
  obtain ⟨g1,g2⟩:=hlen rows xs hxs
  cases a with
  | none =>
   have:rows=[]:=by
    have:=hnone rfl
    cases rows with
    | nil=>rfl
    | cons=>simp at hlc;omega
   subst this
   obtain rfl:xs=[]:=by simpa using g1.symm
   exact run_convert_bytes_nil w src e he hu8 0 cap dst h2
  | some ad =>
   by_cases hne:rows=[]
   ·subst hne
    obtain rfl:xs=[]:=by simpa using g1.symm
    obtain ⟨b,off,sp⟩:=ad
    rw [run_convert_bytes_string w src dst e _ _ cap he hu8 h2,run_bytesToString w _ _ cap [] (by simp [loadCells,loadCellsFrom])]
    rfl
   ·obtain ⟨ad2,esz,h6,hsp,hrows⟩:=h5 hne
    obtain rfl:ad=ad2:=by simpa using h6
    obtain ⟨b,off,sp⟩:=ad
    obtain rfl:sp=none:=hsp
    refine run_convert_bytes_arg w src e he hu8 b off _ cap xs g1.symm (fun i hi=>?_) dst h2
    have h1:esz=1:=by
     have q:=g2 0 (by rw [←g1];exact List.length_pos_iff.2 hne)
     obtain ⟨p1,_⟩:=hrows.get q
     simpa using p1.symm
    subst h1
    have q:=g2 i (by omega)
    obtain ⟨_,p2⟩:=hrows.get q
    obtain ⟨⟨x,c1,_,_,c2⟩,_⟩:=p2
    rw [Nat.mul_one] at c1
    rw [c1];exact congrArg some c2
 ·rename_i d k k' n h1 h2
  rw [show x=_ from ha]
  exact Gives.pure hI (v:=.v (.int k (k.wrap n))) (by simp [convert,Sem.run_bind,run_underlying h1 w,run_underlying h2 w,Conv.intToInt]) rfl h
 ·rename_i d k n h1 h2
  rw [show x=_ from ha]
  exact Gives.pure hI (v:=.v (.string (Utf8.encode n))) (by cases d <;> simp [convert,Sem.run_bind,run_underlying h1 w,run_underlying h2 w,Conv.intToString]) rfl h
 ·rename_i d s h1 h2
  rw [show x=_ from ha]
  exact Gives.pure hI (v:=.v (.string s)) (by cases d <;> simp [convert,Sem.run_bind,run_underlying h1 w,run_underlying h2 w]) rfl h
 ·exact h.elim
theorem elT_facts {t:TypeId} {esz by_:Nat} {z:List Value} (h:elT P t=some (esz,by_,z)) :
  ∃ e i zv,P.underlying t=some (.slice e)∧P.info? e=some i∧i.zero=some zv∧i.size=esz∧i.bytes=by_∧zv.cells.toList=z∧zv.cells.size=esz∧esz≠0∧by_≠0:=by
 unfold elT at h
 split at h
 ·rename_i e hu
  split at h
  ·rename_i i hi
   split at h
   ·rename_i zv hz
    split at h
    ·split at h
     ·cases h
     ·rename_i h1 h2
      simp only [Option.some.injEq,Prod.mk.injEq] at h
      obtain ⟨rfl,rfl,rfl⟩:=h
      exact ⟨e,i,zv,hu,hi,hz,rfl,rfl,rfl,h1,fun h=>h2 (.inl h),fun h=>h2 (.inr h)⟩
    ·cases h
   ·cases h
  ·cases h
 ·cases h
theorem index_run {t e:TypeId} {i:TypeInfo} {b off len cap:Nat} {k:IntKind} {n:Int} (hu:P.underlying t=some (.slice e)) (hi:P.info? e=some i) (h0:0≤n) (h1:n.toNat < len) :
  (Instr.indexAt t (.slice (some ⟨b,off,none⟩) len cap) (.int k n)).run P w=.ok (.pointer (some ⟨b,off+n.toNat * i.size,none⟩)) w:=by
 have h2:n < (len:Int):=by omega
 simp [Instr.indexAt,asIntOf,Sem.run_bind,run_underlying hu w,h0,h2,sizeOf,typeInfo,hi,addr_add]
theorem aIndexAddr_sound (hI:Inv K w H) {t:TypeId} {a b:AV} {x y:Value} (ha:Rep K w a x) (hb:Rep K w b y) (h:aIndexAddr P H Kn t a b):Gives P K w H Kn (do pure (.value (←Instr.indexAt t x y))):=by
 unfold aIndexAddr at h
 split at h
 ·rename_i esz by_ z rows tok k n hel
  obtain ⟨e,i,zv,hu,hi,_,hs,_⟩:=elT_facts hel
  obtain ⟨h0,h⟩:=h
  split at h
  ·rename_i r hr
   have hlt:n.toNat < rows.length:=by
    rcases Nat.lt_or_ge n.toNat rows.length with h | h
    ·exact h
    ·simp [List.getElem?_eq_none h] at hr
   obtain ⟨a,len,cap,rfl,rfl,_,_,_,h5⟩:=ha
   obtain ⟨ad,esz',rfl,hsp,hrows⟩:=h5 (by intro e;subst e;simp at hlt)
   obtain ⟨g1,g2⟩:=hrows.get hr
   obtain rfl:esz'=esz:=by rw [←g1];exact h.1
   rw [show y=_ from hb]
   obtain ⟨bl,off,sp⟩:=ad
   obtain rfl:sp=none:=hsp
   refine Gives.pure hI (v:=.iptr r) (index_run hu hi h0 hlt) ⟨bl,_,rfl,?_⟩ h.2
   rw [hs];exact g2
  ·exact h.elim
 ·rename_i esz by_ z id len k n hel
  obtain ⟨e,i,zv,hu,hi,_,hs,_⟩:=elT_facts hel
  obtain ⟨h0,h1,h⟩:=h
  obtain ⟨a,cap,rfl,g1,g2,g3,g4⟩:=ha
  rw [show y=_ from hb]
  cases a with
  | none=>have:=g2 rfl;omega
  | some ad =>
   obtain ⟨bl,off,sp⟩:=ad
   obtain rfl:sp=none:=g4 _ rfl
   exact Gives.pure hI (v:=.vref id len esz n.toNat 0) (index_run hu hi h0 h1) ⟨⟨bl,off,none⟩,cap,g3,rfl,by rw [hs];rfl⟩ h
 ·rename_i esz by_ z id off len k n hel
  obtain ⟨e,i,zv,hu,hi,_,hs,_⟩:=elT_facts hel
  obtain ⟨h0,h1,h⟩:=h
  obtain ⟨bl,cap,hio,rfl,_⟩:=ha
  rw [show y=_ from hb]
  exact Gives.pure hI (v:=.ref id (off+n.toNat * esz)) (index_run hu hi h0 h1) ⟨bl,hio,by rw [hs]⟩ h
 ·rename_i esz by_ z id cur len k n hel
  obtain ⟨e,i,zv,hu,hi,_,hs,_⟩:=elT_facts hel
  obtain ⟨h0,h1,h⟩:=h
  obtain ⟨a,cap,rfl,g0,g1,g2,g3,g4⟩:=ha
  rw [show y=_ from hb]
  cases a with
  | none=>have:=g2 rfl;omega
  | some ad =>
   obtain ⟨bl,off,sp⟩:=ad
   obtain rfl:sp=none:=g4 _ rfl
   exact Gives.pure hI (v:=.vref id cur esz n.toNat 0) (index_run hu hi h0 h1) ⟨⟨bl,off,none⟩,cap,g3,rfl,by rw [hs];rfl⟩ h
 ·rename_i id off k n hel
  split at h
  rotate_left
  ·exact h.elim
  rename_i len esz harr
  obtain ⟨h0,h1,h⟩:=h
  unfold arrT at harr
  split at harr
  rotate_left
  ·cases harr
  rename_i m e hu
  simp only [Option.map_eq_some_iff,Prod.mk.injEq] at harr
  obtain ⟨s,hs,rfl,rfl⟩:=harr
  obtain ⟨i,hi,rfl⟩:∃ i,P.info? e=some i∧i.size=s:=by
   unfold szT at hs
   cases hi:P.info? e with
   | none=>simp [hi] at hs
   | some i=>exact ⟨i,rfl,by simpa [hi] using hs⟩
  obtain ⟨b,hio,rfl⟩:=ha
  rw [show y=_ from hb]
  refine Gives.pure hI (v:=.ref id (off+n.toNat * i.size)) ?_ ⟨b,hio,rfl⟩ h
  have h2:n < (m:Int):=by omega
  simp [Instr.indexAt,asIntOf,Sem.run_bind,run_underlying hu w,h0,h2,sizeOf,typeInfo,hi,addr_add,Instr.sureAddr]
 ·exact h.elim
theorem str_desc {t:TypeId} (h:isStrT P t=true):P.underlying t=some .string:=by
 unfold isStrT at h;split at h
 ·assumption
 ·cases h
theorem slice_desc {t:TypeId} (h:isSliceT P t=true):∃ e,P.underlying t=some (.slice e):=by
 unfold isSliceT at h;split at h
 ·exact ⟨_,by assumption⟩
 ·cases h
theorem map_desc {t:TypeId} (h:isMapT P t=true):∃ k e,P.underlying t=some (.map k e):=by
 unfold isMapT at h;split at h
 ·exact ⟨_,_,by assumption⟩
 ·cases h
theorem aIndex_sound (hI:Inv K w H) {t:TypeId} {a b:AV} {x y:Value} (ha:Rep K w a x) (hb:Rep K w b y) (h:aIndex P H Kn t a b):Gives P K w H Kn (do pure (.value (←Instr.index t x y))):=by
 unfold aIndex at h
 split at h
 ·rename_i s k n hs
  obtain ⟨h0,h⟩:=h
  split at h
  ·rename_i c hc
   rw [show x=_ from ha,show y=_ from hb]
   refine Gives.pure hI (v:=.v (.int .u8 c.toNat)) ?_ rfl h
   have hc':s[n.toNat]?=some c:=by
    have hlt:n.toNat < s.data.toList.length:=by
     rcases Nat.lt_or_ge n.toNat s.data.toList.length with h | h
     ·exact h
     ·simp [List.getElem?_eq_none h] at hc
    have hlt':n.toNat < s.size:=by simpa using hlt
    rw [List.getElem?_eq_getElem hlt] at hc
    simp only [Option.some.injEq] at hc
    rw [getElem?_pos s n.toNat hlt',←hc]
    rfl
   simp [Instr.index,asIntOf,Sem.run_bind,run_underlying (str_desc hs) w,h0,hc']
  ·exact h.elim
 ·exact h.elim
def RepO (K:KW) (w:World):Option AV→Option Value→Prop
 | none,none=>True
 | some p,some q=>Rep K w p q
 | _,_=>False
theorem bound_run {k:IntKind} {n:Int} {y:Nat} {c:BoundsCode} (h0:0≤n) (h1:n≤y):(Instr.sliceBound (.int k n) y c).run P w=.ok n.toNat w:=by
 simp [Instr.sliceBound,asIntOf,h0,h1]
theorem bnd_rep {d:Nat} {a:Option AV} {x:Option Value} {l:Int} (hl:bnd d a=some l) (hx:RepO K w a x) :
  (a=none∧x=none∧l=d)∨∃ k,x=some (.int k l):=by
 cases a with
 | none =>
  cases x with
  | none=>simp only [bnd,Option.some.injEq] at hl;exact .inl ⟨rfl,rfl,hl.symm⟩
  | some q=>exact hx.elim
 | some p =>
  cases x with
  | none=>exact hx.elim
  | some q =>
   cases p with
   | v c =>
    cases c with
    | int k n =>
     simp only [bnd,Option.some.injEq] at hl
     subst hl
     exact .inr ⟨k,by rw [show q=_ from hx]⟩
    | _=>simp [bnd] at hl
   | _=>simp [bnd] at hl
theorem bounds_run {isS:Bool} {len cap:Nat} {lo hi:Option AV} {xl xh:Option Value} {l h:Int} (hl:bnd 0 lo=some l) (hh:bnd len hi=some h) (hlen:len≤cap)
  (h1:RepO K w lo xl) (h2:RepO K w hi xh)
  (g1:0≤l) (g2:l≤h) (g3:h≤len):(Instr.sliceBounds isS len cap xl xh none).run P w=.ok (l.toNat,h.toNat,cap) w:=by
 unfold Instr.sliceBounds
 rcases bnd_rep hl h1 with ⟨_,rfl,rfl⟩ | ⟨k1,rfl⟩ <;> rcases bnd_rep hh h2 with ⟨_,rfl,rfl⟩ | ⟨k2,rfl⟩
 ·simp [Sem.run_bind]
 ·simp [Sem.run_bind,bound_run (P:=P) (w:=w) (k:=k2) (n:=h) (y:=cap) (c:=if isS then .sliceAcap else .sliceAlen) (by omega) (by omega)]
 ·have:=bound_run (P:=P) (w:=w) (k:=k1) (n:=l) (y:=len) (c:=.sliceB) (by omega) (by omega)
  simp [Sem.run_bind,this]
 ·have e1:=bound_run (P:=P) (w:=w) (k:=k2) (n:=h) (y:=cap) (c:=if isS then .sliceAcap else .sliceAlen) (by omega) (by omega)
  have e2:=bound_run (P:=P) (w:=w) (k:=k1) (n:=l) (y:=h.toNat) (c:=.sliceB) (by omega) (by omega)
  simp [Sem.run_bind,e1,e2]
theorem aSlice_sound (hI:Inv K w H) {t:TypeId} {a:AV} {lo hi mx:Option AV} {x:Value} {xl xh xm:Option Value} (ha:Rep K w a x)
  (h1:RepO K w lo xl) (h2:RepO K w hi xh)
  (h3:RepO K w mx xm)
  (h:aSlice P H Kn t a lo hi mx):Gives P K w H Kn (do pure (.value (←Instr.sliceAt t x xl xh xm))):=by
 unfold aSlice at h
 split at h
 ·exact h.elim
 obtain rfl:xm=none:=by cases xm with | none=>rfl | some _=>exact h3.elim
 split at h
 ·rename_i s
  obtain ⟨hs,h⟩:=h
  split at h
  ·rename_i l hh hl hhh
   obtain ⟨g1,g2,g3,h⟩:=h
   rw [show x=_ from ha]
   have:=bounds_run (P:=P) (isS:=false) (len:=s.size) (cap:=s.size) hl hhh (Nat.le_refl _) h1 h2 g1 g2 g3
   refine Gives.pure hI (v:=.v (.string (s.extract l.toNat hh.toNat))) ?_ rfl h
   simp [Instr.sliceAt,Instr.slice,Sem.run_bind,run_underlying (str_desc hs) w,this]
  ·exact h.elim
 ·rename_i rows tok
  obtain ⟨hel,h⟩:=h
  split at h
  ·rename_i l hh hl hhh
   obtain ⟨g1,g2,g3,g4,h⟩:=h
   obtain ⟨⟨esz,by_,z⟩,hel⟩:=Option.isSome_iff_exists.1 hel
   obtain ⟨e,i,zv,hu,hi',_,hs,_⟩:=elT_facts hel
   obtain ⟨ad,len,cap,rfl,rfl,hlc,hnone,_,h5⟩:=ha
   have:=bounds_run (P:=P) (isS:=true) (len:=rows.length) (cap:=cap) hl hhh hlc h1 h2 g1 g2 g3
   refine Gives.pure hI (v:=.slice ((rows.take hh.toNat).drop l.toNat) none) (x:=.slice (if cap=l.toNat then ad else ad.map (·.add (l.toNat * i.size))) (hh.toNat - l.toNat) (cap - l.toNat)) ?_ ?_ h
   ·simp [Instr.sliceAt,Instr.slice,Sem.run_bind,run_underlying hu w,this,sizeOf,typeInfo,hi']
   ·refine ⟨_,_,_,rfl,by simp;omega,by omega,fun he=>?_,fun _ ht=>by simp at ht,fun hne=>?_⟩
    ·split at he
     ·omega
     ·simp only [Option.map_eq_none_iff] at he;have:=hnone he;omega
    ·have hlt:l.toNat < hh.toNat:=by
      rcases Nat.lt_or_ge l.toNat hh.toNat with h' | h'
      ·exact h'
      ·exact absurd (List.drop_eq_nil_of_le (by simp;omega)) hne
     obtain ⟨ad',esz',rfl,hsp,hrows⟩:=h5 (by intro e;subst e;simp at g3;omega)
     have hne':¬ cap=l.toNat:=by omega
     obtain ⟨bl,off,sp⟩:=ad'
     obtain rfl:sp=none:=hsp
     refine ⟨⟨bl,off+l.toNat * i.size,none⟩,esz',by simp [hne',addr_add],rfl,?_⟩
     have hesz:i.size=esz':=by
      cases rows with
      | nil=>simp at g3;omega
      | cons r rs =>
       have q1:=g4 r (by simp)
       have q2:=hrows.1
       rw [hel] at q1
       simp only [Option.map_some,Option.some.injEq] at q1
       omega
     rw [hesz]
     exact (hrows.take hh.toNat).drop l.toNat
  ·exact h.elim
 ·rename_i id off len
  split at h
  ·rename_i esz by_ z l hh hel hl hhh
   obtain ⟨g1,g2,g3,g4,h⟩:=h
   obtain ⟨e,i,zv,hu,hi',_,hs,_⟩:=elT_facts hel
   obtain ⟨bl,cap,hio,rfl,hlc⟩:=ha
   have:=bounds_run (P:=P) (isS:=true) (len:=len) (cap:=cap) hl hhh hlc h1 h2 g1 g2 g3
   have hne':¬ cap=l.toNat:=by omega
   refine Gives.pure hI (v:=.ms id (off+l.toNat * esz) (hh.toNat - l.toNat)) (x:=.slice (some ⟨bl,off+l.toNat * i.size,none⟩) (hh.toNat - l.toNat) (cap - l.toNat)) ?_ ⟨bl,_,hio,by rw [hs],by omega⟩ h
   simp [Instr.sliceAt,Instr.slice,Sem.run_bind,run_underlying hu w,this,sizeOf,typeInfo,hi',hne',addr_add]
  ·exact h.elim
 ·rename_i id len
  obtain ⟨hel,h⟩:=h
  split at h
  ·rename_i l hh hl hhh
   obtain ⟨rfl,g2,g3,h⟩:=h
   obtain ⟨⟨esz,by_,z⟩,hel⟩:=Option.isSome_iff_exists.1 hel
   obtain ⟨e,i,zv,hu,hi',_,hs,_⟩:=elT_facts hel
   obtain ⟨ad,cap,rfl,hlc,hnone,hth,hsp⟩:=ha
   have:=bounds_run (P:=P) (isS:=true) (len:=len) (cap:=cap) hl hhh hlc h1 h2 (Int.le_refl _) g2 g3
   refine Gives.pure hI (v:=.view id len hh.toNat) (x:=.slice ad hh.toNat cap) ?_ ⟨ad,cap,rfl,by omega,hlc,hnone,hth,hsp⟩ h
   have hadd:Option.map (fun x:Addr=>x.add (Int.toNat 0 * i.size)) ad=ad:=by
    cases ad with
    | none=>rfl
    | some ad =>
     obtain ⟨bl,off,sp⟩:=ad
     obtain rfl:sp=none:=hsp _ rfl
     simp [addr_add]
   have hadd':Option.map (fun x:Addr=>x.add 0) ad=ad:=by simpa using hadd
   simp [Instr.sliceAt,Instr.slice,Sem.run_bind,run_underlying hu w,this,sizeOf,typeInfo,hi',hadd']
  ·exact h.elim
 ·rename_i id cur len
  obtain ⟨hel,h⟩:=h
  split at h
  ·rename_i l hh hl hhh
   obtain ⟨rfl,g2,g3,h⟩:=h
   obtain ⟨⟨esz,by_,z⟩,hel⟩:=Option.isSome_iff_exists.1 hel
   obtain ⟨e,i,zv,hu,hi',_,hs,_⟩:=elT_facts hel
   obtain ⟨ad,cap,rfl,hle,hlc,hnone,hth,hsp⟩:=ha
   have:=bounds_run (P:=P) (isS:=true) (len:=len) (cap:=cap) hl hhh (by omega) h1 h2 (Int.le_refl _) g2 g3
   refine Gives.pure hI (v:=.view id cur hh.toNat) (x:=.slice ad hh.toNat cap) ?_ ⟨ad,cap,rfl,by omega,hlc,hnone,hth,hsp⟩ h
   have hadd':Option.map (fun x:Addr=>x.add 0) ad=ad:=by
    cases ad with
    | none=>rfl
    | some ad =>
     obtain ⟨bl,off,sp⟩:=ad
     obtain rfl:sp=none:=hsp _ rfl
     simp [addr_add]
   simp [Instr.sliceAt,Instr.slice,Sem.run_bind,run_underlying hu w,this,sizeOf,typeInfo,hi',hadd']
  ·exact h.elim
 ·rename_i id off
  split at h
  ·rename_i n k1 ha'
   obtain ⟨hn,h⟩:=h
   obtain rfl:xl=none:=by cases xl with | none=>rfl | some _=>exact h1.elim
   obtain rfl:xh=none:=by cases xh with | none=>rfl | some _=>exact h2.elim
   obtain ⟨b,hb,rfl⟩:=ha
   unfold arrT at ha'
   split at ha'
   ·rename_i n' e hu
    cases hi:P.info? e with
    | none=>simp [szT,hi] at ha'
    | some i =>
     simp only [szT,hi,Option.map_some,Option.some.injEq,Prod.mk.injEq] at ha'
     obtain ⟨rfl,rfl⟩:=ha'
     have hbr:(Instr.sliceBounds false n' n' none none none).run P w=.ok (0,n',n') w:=by simp [Instr.sliceBounds,Sem.run_bind]
     refine Gives.pure hI (v:=.ms id off n') (x:=.slice (some ⟨b,off,none⟩) n' n') ?_ ⟨b,n',hb,rfl,Nat.le_refl _⟩ h
     simp [Instr.sliceAt,Instr.sureAddr,Sem.run_bind,run_underlying hu w,hbr,sizeOf,typeInfo,hi,hn,addr_add]
   ·cases ha'
  ·exact h.elim
 ·exact h.elim
theorem aCut_sound (hI:Inv K w H) {t:TypeId} {a:AV} {lo hi mx:Option AV} {x:Value} {xl xh xm:Option Value} (ha:Rep K w a x)
  (h1:RepO K w lo xl) (h2:RepO K w hi xh) (h3:RepO K w mx xm)
  (h:aCut P H Kn t a lo hi mx):Gives P K w H Kn (do pure (.value (←Instr.sliceAt t x xl xh xm))):=by
 unfold aCut at h
 split at h
 rotate_left
 ·exact h.elim
 rename_i rows k
 obtain rfl:xm=none:=by cases xm with | none=>rfl | some _=>exact h3.elim
 obtain rfl:xh=none:=by cases xh with | none=>rfl | some _=>exact h2.elim
 split at h
 rotate_left
 ·exact h.elim
 rename_i esz by_ z l len z' hel hl hget
 obtain ⟨g1,g2,hne,rfl,rfl,hrl,h⟩:=h
 obtain ⟨e,i,zv,hu,hi',_,hs,_⟩:=elT_facts hel
 obtain ⟨ad,len,cap,rfl,rfl,hlc,hnone,hth,h5⟩:=ha
 obtain ⟨ad',esz',rfl,hsp,hrows⟩:=h5 hne
 have hth:=hth k rfl
 have hesz:z'=esz':=by
  cases rows with
  | nil=>exact absurd rfl hne
  | cons r rs=>rw [←hrl r (by simp)];exact hrows.1
 subst hesz
 obtain ⟨bl,off,sp⟩:=ad'
 obtain rfl:sp=none:=hsp
 have hb:=bounds_run (P:=P) (w:=w) (isS:=true) (len:=rows.length) (cap:=cap) (lo:=lo) (hi:=none) (h:=(rows.length:Int)) hl rfl hlc h1 h2 g1 (by omega) (by omega)
 have hE:=Ext.cut (ad':=if cap=l.toNat then ⟨bl,off,none⟩ else ⟨bl,off+l.toNat * z',none⟩) hI hget hth g2 (by split <;> simp_all)
 refine ⟨.slice (some (if cap=l.toNat then ⟨bl,off,none⟩ else ⟨bl,off+l.toNat * z',none⟩)) (rows.length - l.toNat) (cap - l.toNat),.slice (rows.drop l.toNat) (some H.next),w,_,_,.inl ?_,hE,?_,h⟩
 ·have hcond:(if cap=l.toNat then (some ⟨bl,off,none⟩:Option Addr) else some ((⟨bl,off,none⟩:Addr).add (l.toNat * i.size)))=some (if cap=l.toNat then ⟨bl,off,none⟩ else ⟨bl,off+l.toNat * z',none⟩):=by
   have hz:i.size=z':=by omega
   rw [hz]
   split <;> simp [addr_add]
  simp [Instr.sliceAt,Instr.slice,Sem.run_bind,run_underlying hu w,hb,sizeOf,typeInfo,hi',hcond]
 ·refine ⟨_,_,_,rfl,by simp,by omega,by simp,fun t ht=>?_,fun hne2=>?_⟩
  ·obtain rfl:H.next=t:=by simpa using ht
   simp [KW.addTh]
  ·have hlt:l.toNat < rows.length:=by
    rcases Nat.lt_or_ge l.toNat rows.length with h' | h'
    ·exact h'
    ·exact absurd (List.drop_eq_nil_of_le h') hne2
   have hm:=(hrows.drop l.toNat).mono hE.step.le hE.step.settled
   rw [if_neg (show ¬ cap=l.toNat by omega)] at hm ⊢
   exact ⟨⟨bl,off+l.toNat * z',none⟩,z',rfl,rfl,hm⟩
theorem rep_len {rows:List (List AV)} {tok:Option Nat} {x:Value} (h:Rep K w (.slice rows tok) x):∃ a cap,x=.slice a rows.length cap:=by
 obtain ⟨a,len,cap,rfl,rfl,_⟩:=h;exact ⟨a,cap,rfl⟩
theorem RepEs.length {K:KW} {w:World}:∀ {es:List (Value × AV)} {xs:List MapEntry},RepEs K w es xs→es.length=xs.length
 | [],_,h=>by rw [show _=[] from h];rfl
 | (k,a)::es,_,⟨y,ys,e,_,_,r⟩=>by rw [e,List.length_cons,List.length_cons,r.length]
theorem aLen_sound (hI:Inv K w H) {t ty:TypeId} {a:AV} {x:Value} (ha:Rep K w a x) (h:aLen P H Kn t a):Gives P K w H Kn (do pure (.value (←Builtin.len_ #[t] ty #[x]))):=by
 unfold aLen at h
 split at h
 ·obtain ⟨hs,h⟩:=h
  rw [show x=_ from ha]
  exact Gives.pure hI (v:=.v (.int .i64 _)) (by simp [Builtin.len_,Sem.run_bind,run_underlying (str_desc hs) w,goInt]) rfl h
 ·obtain ⟨hs,h⟩:=h
  obtain ⟨e,he⟩:=slice_desc hs
  rw [show x=_ from ha]
  exact Gives.pure hI (v:=.v (.int .i64 0)) (by simp [Builtin.len_,Sem.run_bind,run_underlying he w,goInt]) rfl h
 ·obtain ⟨hs,h⟩:=h
  obtain ⟨e,he⟩:=slice_desc hs
  obtain ⟨ad,cap,rfl⟩:=rep_len ha
  exact Gives.pure hI (v:=.v (.int .i64 _)) (by simp [Builtin.len_,Sem.run_bind,run_underlying he w,goInt]) rfl h
 ·obtain ⟨hs,h⟩:=h
  obtain ⟨e,he⟩:=slice_desc hs
  obtain ⟨ad,cap,rfl,_⟩:=ha
  exact Gives.pure hI (v:=.v (.int .i64 _)) (by simp [Builtin.len_,Sem.run_bind,run_underlying he w,goInt]) rfl h
 ·obtain ⟨hs,h⟩:=h
  obtain ⟨e,he⟩:=slice_desc hs
  obtain ⟨ad,cap,_,rfl,_⟩:=ha
  exact Gives.pure hI (v:=.v (.int .i64 _)) (by simp [Builtin.len_,Sem.run_bind,run_underlying he w,goInt]) rfl h
 ·obtain ⟨hs,h⟩:=h
  obtain ⟨e,he⟩:=slice_desc hs
  obtain ⟨ad,cap,rfl,_⟩:=ha
  exact Gives.pure hI (v:=.v (.int .i64 _)) (by simp [Builtin.len_,Sem.run_bind,run_underlying he w,goInt]) rfl h
 ·rename_i id
  obtain ⟨hs,h⟩:=h
  obtain ⟨k,e,he⟩:=map_desc hs
  obtain ⟨b,hb,rfl⟩:=ha
  split at h
  ·rename_i es v hes
   obtain ⟨_,b',en,ck,h1,h2,h3,_⟩:=hI.blk id _ hes
   obtain rfl:b=b':=by rw [hb] at h1;simpa using h1
   refine Gives.pure hI (v:=.v (.int .i64 es.length)) ?_ rfl h
   have:en.size=es.length:=by rw [h3.length];simp
   simp [Builtin.len_,Sem.run_bind,run_underlying he w,getObj,Sem.run,h2,goInt,this]
  ·exact h.elim
 ·exact h.elim
end
end Go.Abs
namespace Go.Abs
open Go
section
variable {P:Program} {K:KW} {w:World} {H:AHeap} {Kn:AV→AHeap→Prop}
def Src (P:Program) (K:KW) (w:World) (esz:Nat) (new:List (List AV)) (x:Value):Prop :=
 ∃ news:Array Value,(∀ w',(Builtin.lenOf x).run P w'=.ok new.length w')∧(∀ w':World,w'.heap=w.heap→(Builtin.firstCells esz new.length x).run P w'=.ok news w') ∧
  RepL K w new.flatten news.toList∧(∀ y∈news.toList,y.oneCell'=true)∧news.size=new.length * esz
theorem flatten_length {esz:Nat}:∀ {rows:List (List AV)},(∀ r∈rows,r.length=esz)→rows.flatten.length=rows.length * esz
 | [],_=>by simp
 | r::rs,h=>by
  have:=flatten_length (rows:=rs) (fun q hq=>h q (List.mem_cons_of_mem _ hq))
  rw [List.flatten_cons,List.length_append,h r (List.mem_cons_self ..),this,List.length_cons,Nat.succ_mul,Nat.add_comm]
theorem src_of {esz:Nat} {a:AV} {new:List (List AV)} {x:Value} (hx:Rep K w a x) (hn:newRows a=some new) (hr:∀ r∈new,r.length=esz∧r.all (·.one)=true):Src P K w esz new x:=by
 have hfl:=flatten_length (fun r h=>(hr r h).1)
 cases a with
 | undef=>simp [newRows] at hn
 | agg=>simp [newRows] at hn
 | tuple=>simp [newRows] at hn
 | ms=>simp [newRows] at hn
 | ref=>simp [newRows] at hn
 | iptr=>simp [newRows] at hn
 | map=>simp [newRows] at hn
 | fn=>simp [newRows] at hn
 | vec=>simp [newRows] at hn
 | vref=>simp [newRows] at hn
 | view=>simp [newRows] at hn
 | yld=>simp [newRows] at hn
 | stm=>simp [newRows] at hn
 | v c =>
  rw [show x=c from hx]
  cases c with
  | string s =>
   simp only [newRows,Option.some.injEq] at hn
   subst hn
   refine ⟨s.data.map fun b=>.int .u8 b.toNat,fun w'=>by simp [Builtin.lenOf],fun w' _=>?_,?_,?_,?_⟩
   ·simp only [Builtin.firstCells,List.length_map]
    have:(Array.map (fun b:UInt8=>Value.int IntKind.u8 (b.toNat:Int)) s.data).extract 0 s.data.toList.length=Array.map (fun b:UInt8=>Value.int IntKind.u8 (b.toNat:Int)) s.data:=by
     have hs:s.data.toList.length=(Array.map (fun b:UInt8=>Value.int IntKind.u8 (b.toNat:Int)) s.data).size:=by simp
     rw [hs,Array.extract_size]
    have h2:((s.extract 0 s.data.toList.length).data.map fun b:UInt8=>Value.int IntKind.u8 (b.toNat:Int))=Array.map (fun b:UInt8=>Value.int IntKind.u8 (b.toNat:Int)) s.data:=by
     rw [show s.extract 0 s.data.toList.length=s from by
      apply ByteArray.ext
      have:s.data.toList.length=s.data.size:=by simp
      rw [this];simp]
    rw [h2];rfl
   ·rw [Array.toList_map]
    have:(List.map (fun b:UInt8=>[AV.v (.int .u8 b.toNat)]) s.data.toList).flatten=s.data.toList.map fun b=>AV.v (.int .u8 b.toNat):=by
     induction s.data.toList with
     | nil=>rfl
     | cons b l ih=>simp [ih]
    rw [this]
    exact RepL.map fun _ _=>rfl
   ·intro y hy
    simp only [Array.toList_map,List.mem_map] at hy
    obtain ⟨b,_,rfl⟩:=hy;rfl
   ·simp only [Array.size_map,List.length_map,Array.length_toList]
    by_cases h0:s.data.size=0
    ·simp [h0]
    ·have hm : [AV.v (.int .u8 (s.data[0]'(by omega)).toNat)] ∈ s.data.toList.map (fun b => [AV.v (.int .u8 b.toNat)]) := List.mem_map.2 ⟨s.data[0]'(by omega), by simp, rfl⟩
     have:=(hr _ hm).1
     simp only [List.length_cons,List.length_nil] at this
     rw [←this];omega
  | slice a len cap =>
   cases len with
   | succ n=>simp [newRows] at hn
   | zero =>
    simp only [newRows,Option.some.injEq] at hn
    subst hn
    refine ⟨#[],fun _=>rfl,fun w' _=>?_,rfl,by simp,by simp⟩
    cases a with
    | none=>rfl
    | some a=>simp [Builtin.firstCells,loadCells,loadCellsFrom]
  | _=>simp [newRows] at hn
 | slice rows tok =>
  simp only [newRows,Option.some.injEq] at hn
  subst hn
  obtain ⟨a,len,cap,rfl,rfl,_,_,_,h5⟩:=hx
  by_cases he:rows=[]
  ·subst he
   refine ⟨#[],fun _=>rfl,fun w' _=>?_,rfl,by simp,by simp⟩
   cases a with
   | none=>rfl
   | some a=>simp [Builtin.firstCells,loadCells,loadCellsFrom]
  ·obtain ⟨ad,esz',rfl,hsp,hrows⟩:=h5 he
   obtain ⟨bl,off,sp⟩:=ad
   obtain rfl:sp=none:=hsp
   obtain rfl:esz'=esz:=by
    cases rows with
    | nil=>exact absurd rfl he
    | cons r rs=>rw [←hrows.1];exact (hr r (by simp)).1
   obtain ⟨g1,g2⟩:=hrows.flat
   obtain ⟨xs,q1,q2,q3⟩:=g1.cells
   have hlen:xs.length=rows.length * esz':=by rw [←q2.length,g2]
   refine ⟨xs.toArray,fun _=>rfl,fun w' hw'=>?_,by simpa using q2,by simpa using q3,by simpa using hlen⟩
   have:=run_loadCells_list (P:=P) w' ⟨bl,off,none⟩ xs (fun j v hv=>by
    rw [addr_add]
    have:=q1 j v hv
    simp only [World.cell?,hw'] at this ⊢
    exact this)
   rw [hlen] at this
   exact this
theorem zeroCells_size {z:Array Value} {n:Nat}:(Builtin.zeroCells z n).size=n * z.size:=by simp [Builtin.zeroCells]
theorem notInt_run {u:TypeId} (h:notInt P u=true):∃ d,P.underlying u=some d∧∀ k,d≠.int k:=by
 unfold notInt at h
 split at h <;> first | exact ⟨_,by assumption,by simp⟩ | cases h
theorem append_in {t u ty e:TypeId} {i:TypeInfo} {base:Option Addr} {sLen sCap n:Nat} {x:Value} (ht:P.underlying t=some (.slice e)) (hi:P.info? e=some i) (hu:notInt P u=true)
  (hn:∀ w',(Builtin.lenOf x).run P w'=.ok n w') (hle:sLen+n≤sCap) :
  (Builtin.append_ #[t,u] ty #[.slice base sLen sCap,x]).run P w =
   (do let new ←Builtin.firstCells i.size n x;(match base with | some a=>storeCells (a.add (sLen * i.size)) new.toList | none=>pure ());pure (.slice base (sLen+n) sCap):Sem Value).run P w:=by
 obtain ⟨d,hd,hk⟩:=notInt_run hu
 have hz:(match d with | .int _=>true | _=>false)=false:=by cases d <;> first | rfl | exact absurd rfl (hk _)
 cases base <;> simp [Builtin.append_,run_underlying ht,run_underlying hd,sizeOf,typeInfo,hi,hn,hle,hz]
theorem append_out {t u ty e:TypeId} {i:TypeInfo} {z:Value} {base:Option Addr} {sLen sCap n:Nat} {x:Value} (ht:P.underlying t=some (.slice e)) (hi:P.info? e=some i) (hz:i.zero=some z) (hu:notInt P u=true)
  (hn:∀ w',(Builtin.lenOf x).run P w'=.ok n w') (hgt:sCap < sLen+n) (hfit:(sLen+n) * i.bytes≤70368744177664) (h63:sLen+n≤9223372036854775807) {olds news:Array Value}
  (ho:(Builtin.firstCells i.size sLen (.slice base sLen sCap)).run P w.drew=.ok olds w.drew) (hne:(Builtin.firstCells i.size n x).run P w.drew=.ok news w.drew) :
  (Builtin.append_ #[t,u] ty #[.slice base sLen sCap,x]).run P w =
   .ok (.slice (some ⟨w.heap.size,0,none⟩) (sLen+n) (grownCap w (sLen+n) sCap e)) (w.drew.alloc (.cells (olds++news++Builtin.zeroCells z.cells (grownCap w (sLen+n) sCap e - (sLen+n))) e)):=by
 obtain ⟨d,hd,hk⟩:=notInt_run hu
 have hzz:(match d with | .int _=>true | _=>false)=false:=by cases d <;> first | rfl | exact absurd rfl (hk _)
 have h1:¬ (sLen+n≤sCap):=by omega
 have h2:¬ (9223372036854775807 < ((sLen:Int)+(n:Int))):=by omega
 have h3:¬ (281474976710656 < Builtin.nextslicecap (sLen+n) sCap * i.bytes):=by
  have:=growslice_fits (bytes:=i.bytes) hgt (by omega);omega
 simp [Builtin.append_,run_underlying ht,run_underlying hd,sizeOf,typeInfo,zeroValue,hi,hz,hn,h1,h2,h3,hzz,Question.forced,ho,hne,newRow,grownCap]
theorem le_grownCap {need old:Nat} {e:TypeId}:need≤grownCap w need old e:=by unfold grownCap Question.cut;exact Nat.le_add_right _ _
theorem rows_of {K':KW} {w':World} {b esz:Nat} {rows:List (List AV)} {c:Array Value} {e:TypeId} {pre rest:List Value} (hb:w'.heap[b]?=some (.cells c e (0,0))) (hc:c.toList=pre++rest)
  (hr:RepL K' w' rows.flatten pre) (h1:∀ y∈pre,y.oneCell'=true) (hl:∀ r∈rows,r.length=esz) (him:∀ o,o < rows.length * esz→K'.im b o):RepRows K' w' esz b 0 rows:=by
 have hcs:=CellsAt.of_block hb 0
 rw [List.drop_zero,hc] at hcs
 exact RepRows.of_flat hl (RepCells.of hcs.pre hr h1 fun o _ h=>him o (by rw [flatten_length hl] at h;omega))
theorem rows_at {K':KW} {w':World} {b esz off:Nat} {rows:List (List AV)} {c:Array Value} {e:TypeId} {front pre rest:List Value} (hb:w'.heap[b]?=some (.cells c e (0,0))) (hc:c.toList=front++(pre++rest)) (hf:front.length=off)
  (hr:RepL K' w' rows.flatten pre) (h1:∀ y∈pre,y.oneCell'=true) (hl:∀ r∈rows,r.length=esz) (him:∀ o,o < off+rows.length * esz→K'.im b o):RepRows K' w' esz b off rows:=by
 have hcs:=CellsAt.of_block hb off
 rw [hc,←hf,List.drop_left] at hcs
 rw [←hf]
 exact RepRows.of_flat hl (RepCells.of hcs.pre hr h1 fun o _ h=>him o (by rw [flatten_length hl] at h;omega))
theorem fresh_append {rows:List (List AV)} {esz:Nat} {c:Array Value} {e:TypeId} {cap:Nat} {w':World} {pre rest:List Value} (hI:Inv K w H) (hA:Add w w' (.cells c e (0,0))) (hne:rows≠[])
  (hc:c.toList=pre++rest) (hr:RepL K w rows.flatten pre) (h1:∀ y∈pre,y.oneCell'=true) (hl:∀ r∈rows,r.length=esz) (hcap:rows.length≤cap) (hsz:c.size=cap * esz) :
  ∃ K',Ext K w H K' w' (H.alloc (.tok rows.length esz none))∧Rep K' w' (.slice rows (some H.next)) (.slice (some ⟨w.heap.size,0,none⟩) rows.length cap):=by
 have hE:=Ext.newTok (len:=rows.length) (cap:=cap) (esz:=esz) hI hA hsz hcap
 refine ⟨_,hE,_,_,_,rfl,rfl,hcap,by simp,fun t ht=>?_,fun _=>⟨_,esz,rfl,rfl,?_⟩⟩
 ·obtain rfl:H.next=t:=by simpa using ht
  simp [KW.addTh]
 ·exact rows_of hA.at_ hc (hr.mono hE.step.le hE.step.settled) h1 hl fun o ho=>.inr ⟨rfl,Nat.zero_le _,ho⟩
theorem aAppend_sound0 (hI:Inv K w H) {t u ty:TypeId} {s a:AV} {sv x:Value} (hnv:∀ k c n,s≠.view k c n) (hs:Rep K w s sv) (hx:Rep K w a x) (h:aAppend P H Kn t u s a):Gives P K w H Kn (do pure (.value (←Builtin.append_ #[t,u] ty #[sv,x]))):=by
 unfold aAppend at h
 obtain ⟨hu,h⟩:=h
 split at h
 rotate_left
 ·exact h.elim
 rename_i esz by_ z new hel hnew
 obtain ⟨hrows,h⟩:=h
 obtain ⟨e,i,zv,ht,hi,hz,hsz,hby,_,hzs,hesz,hbyne⟩:=elT_facts hel
 obtain ⟨news,n1,n2,n3,n4,n5⟩:=src_of (P:=P) hx hnew hrows
 subst hsz;subst hby
 split at h
 ·
  obtain ⟨hfit,h⟩:=h
  rw [show sv=_ from hs]
  split at h
  ·rename_i he
   subst he
   refine Gives.pure hI (v:=.v (.slice none 0 0)) (x:=.slice none 0 0) ?_ rfl h
   rw [append_in ht hi hu n1 (by simp)]
   simp only [Sem.run_bind,n2 w rfl,Result.andThen_ok,Sem.run_pure]
   rfl
  ·rename_i he
   have hpos:0 < new.length:=List.length_pos_iff.2 he
   have hbound:new.length≤9223372036854775807:=by
    have:=Nat.le_mul_of_pos_right new.length (Nat.pos_of_ne_zero hbyne)
    omega
   have hrun:=append_out (P:=P) (w:=w) (ty:=ty) (base:=none) (sLen:=0) (sCap:=0) ht hi hz hu n1 (by omega) (by rw [Nat.zero_add];exact hfit) (by omega) (olds:=#[]) (by rfl) (n2 w.drew rfl)
   rw [Nat.zero_add] at hrun
   have hcapl:=le_grownCap (w:=w) (need:=new.length) (old:=0) (e:=e)
   generalize grownCap w new.length 0 e=cp at hrun hcapl
   obtain ⟨K',g1,g2⟩:=fresh_append (c:=#[]++news++Builtin.zeroCells zv.cells (cp - new.length)) (e:=e) (cap:=cp) (pre:=news.toList) (rest:=(Builtin.zeroCells zv.cells (cp - new.length)).toList) hI (Add.drew_alloc w _) he
    (by simp) n3 n4 (fun r h=>(hrows r h).1) hcapl (by
     simp only [Array.size_append,List.size_toArray,List.length_nil,n5,zeroCells_size,hzs]
     rw [Nat.zero_add,←Nat.add_mul];congr 1;omega)
   exact ⟨_,_,_,K',_,.inl (by simp only [Sem.run_bind,hrun,Result.andThen_ok,Sem.run_pure]),g1,g2,h⟩
 ·rename_i rows k
  obtain ⟨hfit,h⟩:=h
  split at h
  rotate_left
  ·exact h.elim
  rename_i len z' hget
  obtain ⟨rfl,rfl,hrl,h⟩:=h
  obtain ⟨ad,len,cap,rfl,rfl,hlc,hnone,htok,hr5⟩:=hs
  split at h
  ·rename_i he
   subst he
   refine Gives.pure hI (v:=.slice rows (some k)) (x:=.slice ad rows.length cap) ?_ ⟨_,_,_,rfl,rfl,hlc,hnone,htok,hr5⟩ h
   rw [append_in ht hi hu n1 (by simpa using hlc)]
   have hnil:news=#[]:=by
    have:news.toList=[]:=by simpa [RepL] using n3
    simpa using this
   have n2':=n2 w rfl
   rw [hnil] at n2'
   simp only [List.length_nil] at n2'
   cases ad <;> simp [Sem.run_bind,n2',storeCells]
  ·rename_i he
   have hpos:0 < new.length:=List.length_pos_iff.2 he
   obtain ⟨hkn,a0,cap0,q1,q2,q3,q4⟩:=hI.blk k _ hget
   have hth:=htok k rfl
   obtain ⟨rfl,rfl⟩:ad=a0∧cap=cap0:=by rw [q1] at hth;simpa [eq_comm] using hth
   have hbound:rows.length+new.length≤9223372036854775807:=by
    have:=Nat.le_mul_of_pos_right (rows.length+new.length) (Nat.pos_of_ne_zero hbyne)
    omega
   have hall:∀ r∈rows++new,r.length=i.size:=by
    intro r hr
    rcases List.mem_append.1 hr with hr | hr
    ·exact hrl r hr
    ·exact (hrows r hr).1
   have hfl:(rows++new).flatten=rows.flatten++new.flatten:=by simp
   have hlt:rows.length < rows.length+new.length:=by omega
   obtain ⟨xs,x0,x2,x3,x4⟩:∃ xs:List Value,(Builtin.firstCells i.size rows.length (.slice ad rows.length cap)).run P w.drew=.ok xs.toArray w.drew∧RepL K w rows.flatten xs∧(∀ y∈xs,y.oneCell'=true)∧xs.length=rows.length * i.size:=by
    by_cases hre:rows=[]
    ·subst hre
     refine ⟨[],?_,rfl,by simp,by simp⟩
     cases ad <;> simp [Builtin.firstCells,loadCells,loadCellsFrom]
    ·obtain ⟨ad2,esz2,rfl,h6,h7⟩:=hr5 hre
     obtain ⟨g1,g2,_⟩:=q4 ad2 rfl
     obtain ⟨bl,off,sp⟩:=ad2
     obtain rfl:sp=none:=g1
     obtain rfl:esz2=i.size:=by
      cases rows with
      | nil=>exact absurd rfl hre
      | cons r rs=>rw [←h7.1];exact hrl r (by simp)
     obtain ⟨g3,g4⟩:=h7.flat
     obtain ⟨xs,p1,p2,p3⟩:=g3.cells
     have hx4:xs.length=rows.length * i.size:=by rw [←p2.length,flatten_length hrl]
     refine ⟨xs,?_,p2,p3,hx4⟩
     have:=run_loadCells_list (P:=P) w.drew ⟨bl,off,none⟩ xs (fun j v hv=>by rw [addr_add];exact p1 j v hv)
     rw [hx4] at this
     exact this
   have hrepall:RepL K w (rows++new).flatten (xs++news.toList):=by rw [hfl];exact x2.append n3
   have honeall:∀ y∈xs++news.toList,y.oneCell'=true:=by
    intro y hy
    rcases List.mem_append.1 hy with hy | hy
    ·exact x3 y hy
    ·exact n4 y hy
   have fin:∀ (ad:Addr) (cap':Nat) (c:Array Value) (e':TypeId) (w':World) (front rest:List Value),ad.spot=none→front.length=ad.off→rows.length+new.length≤cap'→c.size=ad.off+cap' * i.size→c.toList=front++(xs++news.toList++rest) →
     w'.heap[ad.block]?=some (.cells c e' (0,0)) →
     ((
      ∃ c0 e0,K.th k rows.length=some (some ad,cap')∧w.heap[ad.block]?=some (.cells c0 e0 (0,0))∧Chg w w' ad.block (.cells c e' (0,0))∧w'.shape? ad.block=w.shape? ad.block∧∀ o,o < ad.off+rows.length * i.size→c[o]?=c0[o]?) ∨
      (ad.block=w.heap.size∧Add w w' (.cells c e' (0,0)))) →
     ∃ K',Ext K w H K' w' (H.upd k (.tok (rows.length+new.length) i.size none))∧Rep K' w' (.slice (rows++new) (some k)) (.slice (some ad) (rows.length+new.length) cap'):=by
    intro ad cap' c e' w' front rest a1 a2 a3 a4 a5 a6 a7
    have hE:=Ext.growTok (x':=none) hI hget hlt a3 a4 a1 trivial (.inl ⟨rfl,rfl,rfl⟩) (fun _ _=>trivial) a7
    refine ⟨_,hE,_,_,_,rfl,by simp,a3,by simp,fun t ht=>?_,fun _=>⟨ad,i.size,rfl,a1,?_⟩⟩
    ·obtain rfl:k=t:=by simpa using ht
     simp [KW.addTh]
    ·refine rows_at a6 a5 a2 (hrepall.mono hE.step.le hE.step.settled) honeall hall fun o ho=>.inr ⟨rfl,Nat.zero_le _,?_⟩
     rw [List.length_append] at ho;exact ho
   by_cases hle:rows.length+new.length≤cap
   ·
    cases ad with
    | none=>have:=(q3 rfl).1;omega
    | some ad' =>
     obtain ⟨g1,g2,⟨c0,e0,q5,q6,_⟩,q7,q8⟩:=q4 ad' rfl
     obtain ⟨bl,off,sp⟩:=ad'
     obtain rfl:sp=none:=g1
     have q6:c0.size=off+cap * i.size:=q6.resolve_left fun h=>by have:=h.2;omega
     have x1:CellsAt w bl off xs:=by
      by_cases hre:rows=[]
      ·subst hre
       obtain rfl:xs=[]:=by simpa using x4
       intro j v hv;simp at hv
      ·obtain ⟨ad2,esz2,h6,_,h7⟩:=hr5 hre
       obtain rfl:(⟨bl,off,none⟩:Addr)=ad2:=by simpa using h6
       obtain rfl:esz2=i.size:=by
        cases rows with
        | nil=>exact absurd rfl hre
        | cons r rs=>rw [←h7.1];exact hrl r (by simp)
       obtain ⟨g3,_⟩:=h7.flat
       obtain ⟨ys,p1,p2,_⟩:=g3.cells
       have hx4:ys.length=rows.length * i.size:=by rw [←p2.length,flatten_length hrl]
       have hy:=run_loadCells_list (P:=P) w.drew ⟨bl,off,none⟩ ys (fun j v hv=>by rw [addr_add];exact p1 j v hv)
       rw [hx4] at hy
       have hxy:(Builtin.firstCells i.size rows.length (.slice (some ⟨bl,off,none⟩) rows.length cap)).run P w.drew=.ok ys.toArray w.drew:=hy
       rw [hxy] at x0
       have:ys=xs:=by simpa using x0
       subst this
       exact p1
     have hsp:off+rows.length * i.size+news.toList.length≤c0.size:=by
      have hnl:news.toList.length=new.length * i.size:=by rw [Array.length_toList,n5]
      have:=Nat.mul_le_mul_right i.size hle
      rw [Nat.add_mul] at this
      rw [hnl,q6];omega
     have hst:=run_storeCells_at (P:=P) bl (off+rows.length * i.size) e0 news.toList 0 c0 w q5 (by simpa using hsp) n4
     simp only [Nat.add_zero] at hst
     have hdrop:(c0.toList.drop off).take (rows.length * i.size)=xs:=by
      apply List.ext_getElem?
      intro j
      rw [List.getElem?_take]
      by_cases hj:j < rows.length * i.size
      ·rw [if_pos hj,List.getElem?_drop]
       have hj':j < xs.length:=by omega
       have:=x1 j xs[j] (by simp [hj'])
       simp only [World.cell?,q5] at this
       rw [List.getElem?_eq_getElem hj']
       simpa using this
      ·rw [if_neg hj,List.getElem?_eq_none (by omega)]
     have htake:c0.toList.take (off+rows.length * i.size)=c0.toList.take off++xs:=by rw [List.take_add,hdrop]
     have hfl0:(c0.toList.take off).length=off:=by rw [List.length_take,Array.length_toList];omega
     rw [htake] at hst
     obtain ⟨K',g1,g2⟩:=fin ⟨bl,off,none⟩ cap (c0.toList.take off++xs++news.toList++c0.toList.drop (off+rows.length * i.size+news.toList.length)).toArray e0 _ (c0.toList.take off) (c0.toList.drop (off+rows.length * i.size+news.toList.length)) rfl hfl0 hle (by
       simp only [List.size_toArray,List.length_append,List.length_drop,x4,Array.length_toList,hfl0] at hsp ⊢
       omega) (by simp only [List.append_assoc]) (chg_setRow q5).at_
      (.inl ⟨c0,e0,q1,q5,chg_setRow q5,shape_cells q5 (chg_setRow q5).at_ (by
       simp only [List.size_toArray,List.length_append,List.length_drop,x4,Array.length_toList,hfl0] at hsp ⊢
       omega),fun o ho=>by
        have h1:c0[o]?=c0.toList[o]?:=by simp
        have h2:c0.toList[o]?=(c0.toList.take off++xs)[o]?:=by rw [←htake,List.getElem?_take,if_pos ho]
        rw [h1,h2]
        simp only [List.getElem?_toArray]
        rw [List.append_assoc,List.getElem?_append_left (by rw [List.length_append,hfl0];simp only at ho;omega)]⟩)
     refine ⟨_,_,_,K',_,.inl ?_,g1,g2,h⟩
     have hin:=append_in (P:=P) (w:=w) (ty:=ty) (base:=some ⟨bl,off,none⟩) (x:=x) ht hi hu n1 hle
     simp only [Sem.run_bind,n2 w rfl,Result.andThen_ok,addr_add,hst,Sem.run_pure] at hin
     simp only [Sem.run_bind,hin,Result.andThen_ok,Sem.run_pure]
   ·
    have hrun:=append_out (P:=P) (w:=w) (ty:=ty) (base:=ad) (sLen:=rows.length) (sCap:=cap) ht hi hz hu n1 (by omega) hfit (by omega) x0 (n2 w.drew rfl)
    have hcapl:=le_grownCap (w:=w) (need:=rows.length+new.length) (old:=cap) (e:=e)
    generalize grownCap w (rows.length+new.length) cap e=cp at hrun hcapl
    have hA:=Add.drew_alloc w (.cells (xs.toArray++news++Builtin.zeroCells zv.cells (cp - (rows.length+new.length))) e)
    obtain ⟨K',g1,g2⟩:=fin ⟨w.heap.size,0,none⟩ cp _ e _ [] (Builtin.zeroCells zv.cells (cp - (rows.length+new.length))).toList rfl rfl hcapl (by
      simp only [Array.size_append,List.size_toArray,x4,n5,zeroCells_size,hzs]
      rw [←Nat.add_mul,←Nat.add_mul,Nat.zero_add];congr 1;omega) (by simp) hA.at_ (.inr ⟨rfl,hA⟩)
    exact ⟨_,_,_,K',_,.inl (by simp only [Sem.run_bind,hrun,Result.andThen_ok,Sem.run_pure]),g1,g2,h⟩
 ·rename_i k n
  obtain ⟨hfit,h⟩:=h
  split at h
  rotate_left
  ·exact h.elim
  rename_i len z' rows hget
  obtain ⟨rfl,rfl,hrn,hrl',h⟩:=h
  have hrl:∀ r∈rows,r.length=i.size:=fun r hr=>(hrl' r hr).1
  obtain ⟨ad,cap,rfl,hlc,hnone,hth,hspn⟩:=hs
  subst hrn
  split at h
  ·rename_i he
   subst he
   refine Gives.pure hI (v:=.vec k rows.length) (x:=.slice ad rows.length cap) ?_ ⟨_,_,rfl,hlc,hnone,hth,hspn⟩ h
   rw [append_in ht hi hu n1 (by simpa using hlc)]
   have hnil:news=#[]:=by
    have:news.toList=[]:=by simpa [RepL] using n3
    simpa using this
   have n2':=n2 w rfl
   rw [hnil] at n2'
   simp only [List.length_nil] at n2'
   cases ad <;> simp [Sem.run_bind,n2',storeCells]
  ·rename_i he
   have hpos:0 < new.length:=List.length_pos_iff.2 he
   obtain ⟨hkn,a0,cap0,q1,q2,q3,q4⟩:=hI.blk k _ hget
   obtain ⟨rfl,rfl⟩:ad=a0∧cap=cap0:=by rw [q1] at hth;simpa [eq_comm] using hth
   have hbound:rows.length+new.length≤9223372036854775807:=by
    have:=Nat.le_mul_of_pos_right (rows.length+new.length) (Nat.pos_of_ne_zero hbyne)
    omega
   have hfl:(rows++new).flatten=rows.flatten++new.flatten:=by simp
   have hlt:rows.length < rows.length+new.length:=by omega
   have hall1:rows.flatten.all (·.one)=true:=by
    rw [List.all_eq_true]
    intro x hx
    obtain ⟨r,hr,hx⟩:=List.mem_flatten.1 hx
    exact List.all_eq_true.1 (hrl' r hr).2 x hx
   obtain ⟨xs,x0,x2,x3,x4,x1⟩:∃ xs:List Value,(Builtin.firstCells i.size rows.length (.slice ad rows.length cap)).run P w.drew=.ok xs.toArray w.drew∧RepL K w rows.flatten xs∧(∀ y∈xs,y.oneCell'=true)∧xs.length=rows.length * i.size ∧
     ∀ bl,ad=some ⟨bl,0,none⟩→∀ c0 e0,w.heap[bl]?=some (.cells c0 e0 (0,0))→c0.toList.take (rows.length * i.size)=xs:=by
    cases ad with
    | none =>
     have h0:rows=[]:=(q3 rfl).2
     subst h0
     exact ⟨[],by simp [Builtin.firstCells],rfl,by simp,by simp,fun _ h=>by simp at h⟩
    | some ad2 =>
     obtain ⟨g1,g2,⟨c0,e0,g3,g4,pre,rest,g5,g6⟩,_⟩:=q4 ad2 rfl
     obtain ⟨bl,off,sp⟩:=ad2
     obtain rfl:sp=none:=g1
     obtain rfl:off=0:=g2
     have hcs:=CellsAt.of_block g3 0
     rw [List.drop_zero,g5] at hcs
     have hpl:pre.length=rows.length * i.size:=by rw [←g6.length,flatten_length hrl]
     have hcp:=hcs.pre
     refine ⟨pre,?_,g6,RepL.one hall1 g6,hpl,fun bl' hb c1 e1 h1=>?_⟩
     ·have:=run_loadCells_list (P:=P) w.drew ⟨bl,0,none⟩ pre (fun j v hv=>by rw [addr_add];exact hcp j v hv)
      rw [hpl] at this
      exact this
     ·obtain rfl:bl=bl':=by simpa using hb
      obtain ⟨rfl,rfl⟩:c0=c1∧e0=e1:=by rw [g3] at h1;simpa using h1
      rw [g5,←hpl];simp
   have hrepall:RepL K w (rows++new).flatten (xs++news.toList):=by rw [hfl];exact x2.append n3
   have fin:∀ (ad:Addr) (cap':Nat) (c:Array Value) (e':TypeId) (w':World) (rest:List Value),ad.spot=none→ad.off=0→rows.length+new.length≤cap'→c.size=cap' * i.size→c.toList=xs++news.toList++rest →
     w'.heap[ad.block]?=some (.cells c e' (0,0)) →
     ((
      ∃ c0 e0,K.th k rows.length=some (some ad,cap')∧w.heap[ad.block]?=some (.cells c0 e0 (0,0))∧Chg w w' ad.block (.cells c e' (0,0))∧w'.shape? ad.block=w.shape? ad.block∧∀ o,o < rows.length * i.size→c[o]?=c0[o]?) ∨
      (ad.block=w.heap.size∧Add w w' (.cells c e' (0,0)))) →
     ∃ K',Ext K w H K' w' (H.upd k (.tok (rows.length+new.length) i.size (some (rows++new))))∧Rep K' w' (.vec k (rows.length+new.length)) (.slice (some ad) (rows.length+new.length) cap'):=by
    intro ad cap' c e' w' rest a1 a2 a3 a4 a5 a6 a7
    have hE:=Ext.growTok (x':=some (rows++new)) (hi':=0) hI hget hlt a3 (by rw [a2,a4,Nat.zero_add]) a1 a2 (.inr ⟨⟨_,rfl⟩,⟨_,rfl⟩,rfl⟩) (fun hle hset=>⟨_,rest,a5,hrepall.mono hle hset⟩) (by rw [a2,Nat.zero_add];exact a7)
    refine ⟨_,hE,_,_,rfl,a3,by simp,by simp [KW.addTh],fun ad' h'=>?_⟩
    obtain rfl:ad=ad':=by simpa using h'
    exact a1
   by_cases hle:rows.length+new.length≤cap
   ·cases ad with
    | none=>have:=(q3 rfl).1;omega
    | some ad' =>
     obtain ⟨g1,g2,⟨c0,e0,q5,q6,_⟩,q7,q8⟩:=q4 ad' rfl
     obtain ⟨bl,off,sp⟩:=ad'
     obtain rfl:sp=none:=g1
     obtain rfl:off=0:=g2
     have q6:c0.size=cap * i.size:=(q6.resolve_left fun h=>nomatch h.1).trans (Nat.zero_add _)
     have hsp:rows.length * i.size+news.toList.length≤c0.size:=by
      have hnl:news.toList.length=new.length * i.size:=by rw [Array.length_toList,n5]
      rw [hnl,q6,←Nat.add_mul];exact Nat.mul_le_mul_right _ hle
     have hst:=run_storeCells_at (P:=P) bl (rows.length * i.size) e0 news.toList 0 c0 w q5 (by simpa using hsp) n4
     simp only [Nat.add_zero] at hst
     have htake:c0.toList.take (rows.length * i.size)=xs:=x1 bl rfl c0 e0 q5
     rw [htake] at hst
     obtain ⟨K',g1,g2⟩:=fin ⟨bl,0,none⟩ cap (xs++news.toList++c0.toList.drop (rows.length * i.size+news.toList.length)).toArray e0 _ _ rfl rfl hle (by
       simp only [List.size_toArray,List.length_append,List.length_drop,x4,Array.length_toList] at hsp ⊢
       rw [q6] at hsp ⊢;omega) rfl (chg_setRow q5).at_
      (.inl ⟨c0,e0,q1,q5,chg_setRow q5,shape_cells q5 (chg_setRow q5).at_ (by
       simp only [List.size_toArray,List.length_append,List.length_drop,x4,Array.length_toList] at hsp ⊢
       omega),fun o ho=>by
        have h1:c0[o]?=c0.toList[o]?:=by simp
        have h2:c0.toList[o]?=xs[o]?:=by rw [←htake,List.getElem?_take,if_pos ho]
        rw [h1,h2]
        simp only [List.getElem?_toArray,List.append_assoc]
        rw [List.getElem?_append_left (by omega)]⟩)
     refine ⟨_,_,_,K',_,.inl ?_,g1,g2,h⟩
     have hin:=append_in (P:=P) (w:=w) (ty:=ty) (base:=some ⟨bl,0,none⟩) (x:=x) ht hi hu n1 hle
     simp only [Sem.run_bind,n2 w rfl,Result.andThen_ok,addr_add,Nat.zero_add,hst,Sem.run_pure] at hin
     simp only [Sem.run_bind,hin,Result.andThen_ok,Sem.run_pure]
   ·have hrun:=append_out (P:=P) (w:=w) (ty:=ty) (base:=ad) (sLen:=rows.length) (sCap:=cap) ht hi hz hu n1 (by omega) hfit (by omega) x0 (n2 w.drew rfl)
    have hcapl:=le_grownCap (w:=w) (need:=rows.length+new.length) (old:=cap) (e:=e)
    generalize grownCap w (rows.length+new.length) cap e=cp at hrun hcapl
    have hA:=Add.drew_alloc w (.cells (xs.toArray++news++Builtin.zeroCells zv.cells (cp - (rows.length+new.length))) e)
    obtain ⟨K',g1,g2⟩:=fin ⟨w.heap.size,0,none⟩ cp _ e _ (Builtin.zeroCells zv.cells (cp - (rows.length+new.length))).toList rfl rfl hcapl (by
      simp only [Array.size_append,List.size_toArray,x4,n5,zeroCells_size,hzs]
      rw [←Nat.add_mul,←Nat.add_mul];congr 1;omega) (by simp) hA.at_ (.inr ⟨rfl,hA⟩)
    exact ⟨_,_,_,K',_,.inl (by simp only [Sem.run_bind,hrun,Result.andThen_ok,Sem.run_pure]),g1,g2,h⟩
 ·exact absurd rfl (hnv _ _ _)
 ·exact h.elim
theorem flat_take {z:Nat}:∀ {rows:List (List AV)} (n:Nat),(∀ r∈rows,r.length=z)→(rows.take n).flatten=rows.flatten.take (n * z)∧(rows.drop n).flatten=rows.flatten.drop (n * z)
 | [],n,_=>by simp
 | q::rows,0,_=>by simp
 | q::rows,n+1,h=>by
  obtain ⟨h1,h2⟩:=flat_take (rows:=rows) n fun r hr=>h r (by simp [hr])
  have hq:=h q (by simp)
  have e:(n+1) * z=q.length+n * z:=by rw [hq,Nat.succ_mul,Nat.add_comm]
  refine ⟨?_,?_⟩
  ·rw [List.take_succ_cons,List.flatten_cons,h1,List.flatten_cons,e,List.take_append,List.take_of_length_le (l:=q) (by omega),Nat.add_sub_cancel_left]
  ·rw [List.drop_succ_cons,h2,List.flatten_cons,e,List.drop_append,List.drop_of_length_le (l:=q) (by omega),Nat.add_sub_cancel_left,List.nil_append]
theorem aAppend_sound (hI:Inv K w H) {t u ty:TypeId} {s a:AV} {sv x:Value} (hs:Rep K w s sv) (hx:Rep K w a x) (h:aAppend P H Kn t u s a):Gives P K w H Kn (do pure (.value (←Builtin.append_ #[t,u] ty #[sv,x]))):=by
 by_cases hv:∃ k c n,s=.view k c n
 rotate_left
 ·exact aAppend_sound0 hI (fun k c n e=>hv ⟨k,c,n,e⟩) hs hx h
 obtain ⟨k,cur,n,rfl⟩:=hv
 have h00:=h
 unfold aAppend at h
 obtain ⟨hu,h⟩:=h
 split at h
 rotate_left
 ·exact h.elim
 rename_i esz by_ z new hel hnew
 obtain ⟨hrows,h⟩:=h
 simp only at h
 obtain ⟨hfit,h⟩:=h
 split at h
 rotate_left
 ·exact h.elim
 rename_i len z' rows hget
 obtain ⟨rfl,rfl,hrn,hrl',hncur,hne,h⟩:=h
 obtain ⟨ad,cap,rfl,hnc,hlc,hnone,hth,hspn⟩:=hs
 split at h
 ·rename_i hfits
  obtain ⟨e,i,zv,ht,hi,hz,hsz,hby,_,hzs,hesz,hbyne⟩:=elT_facts hel
  obtain ⟨news,n1,n2,n3,n4,n5⟩:=src_of (P:=P) hx hnew hrows
  subst hsz;subst hby
  have hpos:0 < new.length:=List.length_pos_iff.2 hne
  have hrl:∀ r∈rows,r.length=i.size:=fun r hr=>(hrl' r hr).1
  obtain ⟨hkn,a0,cap0,q1,q2,q3,q4⟩:=hI.blk k _ hget
  obtain ⟨rfl,rfl⟩:ad=a0∧cap=cap0:=by rw [q1] at hth;simpa [eq_comm] using hth
  cases ad with
  | none=>have:=(q3 rfl).1;omega
  | some ad' =>
   obtain ⟨g1,g2,⟨c0,e0,q5,q6,pre,rest,q9,q10⟩,q7,q8⟩:=q4 ad' rfl
   obtain ⟨bl,off,sp⟩:=ad'
   obtain rfl:sp=none:=g1
   obtain rfl:off=0:=g2
   have hnl:news.toList.length=new.length * i.size:=by rw [Array.length_toList,n5]
   have hpl:pre.length=len * i.size:=by rw [←q10.length,flatten_length hrl,hrn]
   have hmul:n * i.size+new.length * i.size≤len * i.size:=by rw [←Nat.add_mul];exact Nat.mul_le_mul_right _ hfits
   have hcsz:c0.size=pre.length+rest.length:=by rw [←Array.length_toList,q9,List.length_append]
   have hst:=run_storeCells_at (P:=P) bl (n * i.size) e0 news.toList 0 c0 w q5 (by omega) n4
   simp only [Nat.add_zero,hnl] at hst
   have hc'sz:((c0.toList.take (n * i.size)++news.toList++c0.toList.drop (n * i.size+new.length * i.size)).toArray).size=c0.size:=by
    simp only [List.size_toArray,List.length_append,List.length_take,List.length_drop,Array.length_toList,hnl] at hnl ⊢
    omega
   have hE:=Ext.vecWrite (c:=(c0.toList.take (n * i.size)++news.toList++c0.toList.drop (n * i.size+new.length * i.size)).toArray) (e:=e0) (l':=rows.take n++new++rows.drop (n+new.length)) hI hget hth q5 (chg_setRow q5) (shape_cells q5 (chg_setRow q5).at_ hc'sz) hc'sz
    ⟨pre.take (n * i.size)++news.toList++pre.drop (n * i.size+news.toList.length),rest,by
     have h5:(pre++rest).take (n * i.size)=pre.take (n * i.size):=List.take_append_of_le_length (by omega)
     have h6:(pre++rest).drop (n * i.size+new.length * i.size)=pre.drop (n * i.size+new.length * i.size)++rest:=List.drop_append_of_le_length (by omega)
     simp only [q9,hnl,h5,h6,List.append_assoc],by
     have hsp:=splice_rep (off:=n * i.size) q10 n3
     have hfl:(rows.take n++new++rows.drop (n+new.length)).flatten=splice rows.flatten (n * i.size) new.flatten:=by
      unfold splice
      rw [List.flatten_append,List.flatten_append,(flat_take n hrl).1,(flat_take (n+new.length) hrl).2,Nat.add_mul,flatten_length fun r hr=>(hrows r hr).1]
     rw [hfl]
     exact hsp.mono (.refl K) (fun b' o' hb'=>cell_of_heap ((chg_setRow q5).others b' (fun e=>nomatch (q7 o' (Nat.zero_le _) (e ▸ hb')).1)) _ _)⟩
   refine ⟨_,.view k len (n+new.length),_,K,_,.inl ?_,hE,⟨some ⟨bl,0,none⟩,cap,rfl,hfits,hlc,hnone,hth,hspn⟩,h⟩
   have hin:=append_in (P:=P) (w:=w) (ty:=ty) (base:=some ⟨bl,0,none⟩) (sLen:=n) (sCap:=cap) (x:=x) ht hi hu n1 (by omega)
   simp only [Sem.run_bind,n2 w rfl,Result.andThen_ok,addr_add,Nat.zero_add,hst,Sem.run_pure] at hin
   simp only [Sem.run_bind,hin,Result.andThen_ok,Sem.run_pure]
 ·rename_i hfits
  obtain ⟨rfl,h⟩:=h
  have hA:aAppend P H (fun v H'=>v=.vec k (n+new.length)∧Kn (.view k (n+new.length) (n+new.length)) H') t u (.vec k n) a:=by
   unfold aAppend
   rw [hel,hnew]
   refine ⟨hu,hrows,hfit,?_⟩
   rw [hget]
   refine ⟨rfl,rfl,hrn,hrl',?_⟩
   rw [if_neg hne]
   exact ⟨rfl,h⟩
  obtain ⟨x',v,w',K',H',hr,hE,hv,rfl,hk⟩:=aAppend_sound0 (ty:=ty) hI (fun _ _ _ e=>by cases e) (s:=.vec k n) ⟨ad,cap,rfl,hlc,hnone,hth,hspn⟩ hx hA
  obtain ⟨a1,c1,e1,h1,h2,h3,h4⟩:=hv
  exact ⟨x',.view k (n+new.length) (n+new.length),w',K',H',hr,hE,⟨a1,c1,e1,Nat.le_refl _,h1,h2,h3,h4⟩,hk⟩
end
end Go.Abs
namespace Go.Abs
open Go
section
variable {P:Program} {K:KW} {w:World} {H:AHeap} {Kn:AV→AHeap→Prop}
def RepP (K:KW) (w:World):List (Nat × AV)→List (Nat × Value)→Prop
 | [],ys=>ys=[]
 | (i,a)::as,ys=>∃ y r,ys=(i,y)::r∧Rep K w a y∧RepP K w as r
theorem repP_map {ρ:Operand→Value} {env:Env} (h:∀ x,Rep K w (aeval env x) (ρ x)):∀ (ps:List (Nat × Operand)),RepP K w (ps.map fun p=>(p.1,aeval env p.2)) (ps.map fun (i,x)=>(i,ρ x))
 | []=>rfl
 | p::ps=>⟨ρ p.2,_,rfl,h p.2,repP_map h ps⟩
theorem fill_step (cells v:Array Value) (off:Nat) (h:off+v.size≤cells.size) :
  v.zipIdx.foldl (fun cs (c,j)=>cs.setIfInBounds (off+j) c) cells=(cells.toList.take off++v.toList++cells.toList.drop (off+v.size)).toArray:=by
 rw [←Array.foldl_toList,Array.toList_zipIdx]
 obtain ⟨h1,h2⟩:=Great.foldl_set off v.toList 0 cells
 apply Array.ext_getElem?
 intro k
 refine (h2 k).trans ?_
 simp only [Nat.add_zero,Array.length_toList,List.getElem?_toArray,List.append_assoc]
 by_cases hk:k < off
 ·rw [if_neg (by omega),List.getElem?_append_left (by simp;omega),List.getElem?_take,if_pos hk];simp
 ·rw [List.getElem?_append_right (by simp;omega)]
  have e1:(List.take off cells.toList).length=off:=by simp;omega
  rw [e1]
  by_cases hk2:k < off+v.size
  ·rw [if_pos (by omega),List.getElem?_append_left (by simp;omega)]
  ·rw [if_neg (by omega),List.getElem?_append_right (by simp;omega),List.getElem?_drop]
   simp only [Array.length_toList]
   rw [show off+v.size+(k - off - v.size)=k by omega]
   simp
theorem fill_rep {ps:List (Nat × Nat)} {place:Nat→Option (Nat × Nat)} (hp:∀ i q,ps[i]?=some q→place i=some q):∀ {parts:List (Nat × AV)} {cparts:List (Nat × Value)} {l l':List AV} {cells:Array Value},
  RepP K w parts cparts→RepL K w l cells.toList→aFill ps l parts=some l'→∃ cells',Instr.fill place cells cparts=some cells'∧RepL K w l' cells'.toList
 | [],_,l,l',cells,hr,hl,h=>by
  rw [show _=[] from hr]
  simp only [aFill,Option.some.injEq] at h
  subst h
  exact ⟨cells,rfl,hl⟩
 | (i,a)::parts,_,l,l',cells,⟨y,r,e,hy,hr⟩,hl,h=>by
  subst e
  simp only [aFill] at h
  split at h
  ·rename_i o s cs hpi hcs
   split at h
   ·rename_i hc
    obtain ⟨g1,_⟩:=celled_rep hcs hy
    have hlen:y.cells.size=s:=by rw [←Array.length_toList,←g1.length,hc.1]
    have hcl:cells.size=l.length:=by rw [←Array.length_toList,←hl.length]
    have hstep:=fill_step cells y.cells o (by omega)
    obtain ⟨cells',q1,q2⟩:=fill_rep hp (cells:=(cells.toList.take o++y.cells.toList++cells.toList.drop (o+y.cells.size)).toArray) hr (by
     have:=splice_rep (off:=o) hl g1
     rw [Array.length_toList] at this
     simpa using this) h
    refine ⟨cells',?_,q2⟩
    unfold Instr.fill
    simp only [hp i _ hpi,hlen]
    rw [if_neg (by simp;omega),hstep,q1]
   ·cases h
  ·cases h
theorem fields_run:∀ (fs:List Field) (ps:List (Nat × Nat)),(fs.mapM fun f=>(szT P f.type).map fun s=>(f.offset,s))=some ps →
  (fs.mapM fun f=>(Prod.mk f.offset <$> sizeOf f.type:Sem (Nat × Nat))).run P w=.ok ps w
 | [],ps,h=>by simp only [List.mapM_nil] at h;cases h;rfl
 | f::fs,ps,h=>by
  rw [List.mapM_cons] at h
  cases hs:szT P f.type with
  | none=>simp [hs] at h
  | some s =>
   cases hr:(fs.mapM fun f=>(szT P f.type).map fun s=>(f.offset,s)) with
   | none=>simp [hs,hr] at h
   | some r =>
    simp only [hs,hr,Option.map_some] at h
    cases h
    obtain ⟨i,hi,rfl⟩:∃ i,P.info? f.type=some i∧i.size=s:=by
     unfold szT at hs
     cases hi:P.info? f.type with
     | none=>simp [hi] at hs
     | some i=>exact ⟨i,rfl,by simpa [hi] using hs⟩
    rw [List.mapM_cons]
    simp only [Sem.run_bind,Sem.run_map,sizeOf,typeInfo,run_program,Result.andThen_ok,hi,Sem.run_pure]
    have:=fields_run fs r hr
    simp only [sizeOf,typeInfo] at this
    simp only [this,Result.andThen_ok]
theorem aBuild_sound (hI:Inv K w H) {t:TypeId} {parts:List (Nat × AV)} {cparts:Array (Nat × Value)} (hr:RepP K w parts cparts.toList) (h:aBuild P H Kn t parts):Gives P K w H Kn (do pure (.value (←Instr.build t cparts))):=by
 unfold aBuild at h
 split at h
 rotate_left
 ·exact h.elim
 rename_i z ps hb
 unfold ret at h
 split at h
 rotate_left
 ·exact h.elim
 rename_i a ha
 simp only [Option.map_eq_some_iff] at ha
 obtain ⟨l',hl',rfl⟩:=ha
 unfold bldT at hb
 split at hb <;> try (cases hb)
 rotate_left
 ·rename_i m e zv hu hz
  obtain ⟨i,hi,hz'⟩:∃ i,P.info? t=some i∧i.zero=some zv:=by
   unfold zeroT at hz
   cases hi:P.info? t with
   | none=>simp [hi] at hz
   | some i=>exact ⟨i,rfl,by simpa [hi] using hz⟩
  simp only [Option.map_eq_some_iff,Prod.mk.injEq] at hb
  obtain ⟨s,hs,rfl,rfl⟩:=hb
  obtain ⟨j,hj,rfl⟩:∃ i,P.info? e=some i∧i.size=s:=by
   unfold szT at hs
   cases hi:P.info? e with
   | none=>simp [hi] at hs
   | some i=>exact ⟨i,rfl,by simpa [hi] using hs⟩
  obtain ⟨cells',q1,q2⟩:=fill_rep (place:=fun x=>some (x * j.size,j.size)) (fun i q hq=>by
   rw [List.getElem?_map,Option.map_eq_some_iff] at hq
   obtain ⟨a,ha,rfl⟩:=hq
   have:=List.getElem?_eq_some_iff.1 ha
   obtain ⟨h1,h2⟩:=this
   simp at h2;subst h2;rfl) hr (cells:=zv.cells) (RepL.vs K w _) hl'
  refine Gives.pure hI (v:=.agg l') (x:=.agg cells') ?_ ⟨_,rfl,q2⟩ h
  simp [Instr.build,zeroValue,typeInfo,sizeOf,hi,hz',hj,Sem.run_bind,run_underlying hu w,q1]
 rename_i fs zv hu hz
 obtain ⟨i,hi,hz'⟩:∃ i,P.info? t=some i∧i.zero=some zv:=by
  unfold zeroT at hz
  cases hi:P.info? t with
  | none=>simp [hi] at hz
  | some i=>exact ⟨i,rfl,by simpa [hi] using hz⟩
 simp only [Option.map_eq_some_iff,Prod.mk.injEq] at hb
 obtain ⟨ps',hps,rfl,rfl⟩:=hb
 have hmap:(fs.mapM fun f=>(Prod.mk f.offset <$> sizeOf f.type:Sem (Nat × Nat))).run P w=.ok ps'.toArray w:=by
  rw [Array.mapM_eq_mapM_toList,Sem.run_map,fields_run fs.toList ps' hps]
  rfl
 obtain ⟨cells',q1,q2⟩:=fill_rep (place:=fun x=>ps'[x]?) (fun i q h=>h) hr (cells:=zv.cells) (RepL.vs K w _) hl'
 refine Gives.pure hI (v:=.agg l') (x:=.agg cells') ?_ ⟨_,rfl,q2⟩ h
 simp [Instr.build,zeroValue,typeInfo,hi,hz',Sem.run_bind,run_underlying hu w,hmap,q1]
theorem litRows_rep {esz:Nat}:∀ {parts:List (Nat × AV)} {cparts:List (Nat × Value)} {i:Nat} {rows:List (List AV)} {pre:List Value} {cells:Array Value},RepP K w parts cparts→litRows esz i parts=some rows →
  pre.length=i * esz→cells.toList.take (i * esz)=pre→(i+parts.length) * esz≤cells.size →
  ∃ mid cells',Instr.fill (fun j=>some (j * esz,esz)) cells cparts=some cells'∧cells'.toList=pre++mid++cells.toList.drop ((i+parts.length) * esz)∧RepL K w rows.flatten mid∧(∀ y∈mid,y.oneCell'=true) ∧
   (∀ r∈rows,r.length=esz)∧rows.length=parts.length
 | [],_,i,rows,pre,cells,hr,h,hp,ht,hs=>by
  rw [show _=[] from hr]
  simp only [litRows,Option.some.injEq] at h
  subst h
  exact ⟨[],cells,rfl,by simp [←ht],rfl,by simp,by simp,rfl⟩
 | (j,a)::parts,_,i,rows,pre,cells,⟨y,r,e,hy,hr⟩,h,hp,ht,hs=>by
  subst e
  simp only [litRows] at h
  split at h
  ·rename_i cs rs hcs hrs
   split at h
   ·rename_i hc
    obtain ⟨rfl,hcl⟩:=hc
    simp only [Option.some.injEq] at h
    subst h
    obtain ⟨g1,g2⟩:=celled_rep hcs hy
    have hlen:y.cells.size=esz:=by rw [←Array.length_toList,←g1.length,hcl]
    have e1:(j+((j,a)::parts).length) * esz=(j+1+parts.length) * esz:=by congr 1;simp;omega
    have e2:(j+1) * esz=j * esz+esz:=Nat.succ_mul j esz
    have e3:(j+1+parts.length) * esz=j * esz+esz+parts.length * esz:=by rw [Nat.add_mul,e2]
    rw [e1] at hs
    have hstep:=fill_step cells y.cells (j * esz) (by rw [hlen];omega)
    have hpl:pre.length=j * esz:=hp
    have hl1:(List.take (j * esz) cells.toList).length=j * esz:=by rw [ht,hpl]
    obtain ⟨mid,cells',q1,q2,q3,q4,q5,q6⟩:=litRows_rep (i:=j+1) (pre:=pre++y.cells.toList) (cells:=(cells.toList.take (j * esz)++y.cells.toList++cells.toList.drop (j * esz+y.cells.size)).toArray) hr hrs
     (by simp only [List.length_append,hpl,Array.length_toList,hlen,e2])
     (by
      simp only [ht,e2]
      rw [List.take_append_of_le_length (by simp only [List.length_append,hpl,Array.length_toList,hlen];omega)]
      rw [List.take_of_length_le (by simp only [List.length_append,hpl,Array.length_toList,hlen];omega)])
     (by simp only [List.size_toArray,List.length_append,hl1,Array.length_toList,List.length_drop,hlen];omega)
    refine ⟨y.cells.toList++mid,cells',?_,?_,by simpa using g1.append q3,?_,?_,by simp [q6]⟩
    ·unfold Instr.fill
     simp only [hlen]
     rw [if_neg (by simp;omega),hstep,q1]
    ·rw [q2,e1,e3]
     simp only [List.append_assoc,List.drop_append,hl1,Array.length_toList,hlen,ht,hpl]
     congr 2
     congr 1
     rw [List.drop_eq_nil_of_le (by rw [hpl];omega),List.drop_eq_nil_of_le (by simp only [Array.length_toList,hlen];omega),List.nil_append,List.nil_append,List.drop_drop]
     congr 1;omega
    ·intro z hz
     rcases List.mem_append.1 hz with hz | hz
     ·exact g2 z hz
     ·exact q4 z hz
    ·intro q hq
     rcases List.mem_cons.1 hq with rfl | hq
     ·exact hcl
     ·exact q5 q hq
   ·cases h
  ·cases h
theorem range0:Array.range 0=#[]:=Array.ext' (by simp)
theorem ms_new (hI:Inv K w H) {w':World} {c:Array Value} {e:TypeId} {l:List AV} {n cap:Nat} (hA:Add w w' (.cells c e (0,0))) (hl:RepL K w l c.toList) (hn:n≤cap) :
  ∃ K',Ext K w H K' w' (H.alloc (.cells l))∧Rep K' w' (.ms H.next 0 n) (.slice (some ⟨w.heap.size,0,none⟩) n cap):=by
 have hle:KLe K (K.addIo H.next w.heap.size):=⟨fun i b h=>by
  simp only [KW.addIo];rw [if_neg (fun (e:i=H.next)=>by have:=(hI.ioLt i b h).1;omega)];exact h,fun _ _ h=>h,fun _ _ _ h=>h,fun _ _ _ h=>h⟩
 refine ⟨K.addIo H.next w.heap.size,Ext.new hI hA rfl rfl rfl (fun _ _ _=>rfl) (by simp) ⟨w.heap.size,c,e,by simp [KW.addIo],hA.at_,c.toList,[],by simp,?_⟩,w.heap.size,cap,by simp [KW.addIo],rfl,hn⟩
 exact hl.mono hle (Add.step hI hA hle).settled
theorem slice_new (hI:Inv K w H) {w':World} {c:Array Value} {e:TypeId} {rows:List (List AV)} {cap esz:Nat} {pre rest:List Value} (hA:Add w w' (.cells c e (0,0)))
  (hc:c.toList=pre++rest) (hr:RepL K w rows.flatten pre) (h1:∀ y∈pre,y.oneCell'=true) (hl:∀ r∈rows,r.length=esz) (hcap:rows.length≤cap) (hsz:c.size=cap * esz) :
  ∃ K',Ext K w H K' w' (H.alloc (.tok rows.length esz none))∧Rep K' w' (.slice rows (some H.next)) (.slice (some ⟨w.heap.size,0,none⟩) rows.length cap):=by
 by_cases hne:rows=[]
 ·subst hne
  have hE:=Ext.newTok (len:=0) (cap:=cap) (esz:=esz) hI hA hsz (Nat.zero_le _)
  refine ⟨_,hE,_,_,_,rfl,rfl,Nat.zero_le _,by simp,fun t ht=>?_,fun h=>absurd rfl h⟩
  obtain rfl:H.next=t:=by simpa using ht
  simp [KW.addTh]
 ·exact fresh_append hI hA hne hc hr h1 hl hcap hsz
theorem vec_new (hI:Inv K w H) {w':World} {c:Array Value} {e:TypeId} {rows:List (List AV)} {cap esz:Nat} {pre rest:List Value} (hA:Add w w' (.cells c e (0,0)))
  (hc:c.toList=pre++rest) (hr:RepL K w rows.flatten pre) (hcap:rows.length≤cap) (hsz:c.size=cap * esz) :
  ∃ K',Ext K w H K' w' (H.alloc (.tok rows.length esz (some rows)))∧Rep K' w' (.vec H.next rows.length) (.slice (some ⟨w.heap.size,0,none⟩) rows.length cap) :=
 ⟨_,Ext.newTok' (hi:=0) hI hA hsz hcap (.inr ⟨⟨_,rfl⟩,rfl⟩) (fun hle hset=>⟨pre,rest,hc,hr.mono hle hset⟩),_,_,rfl,hcap,by simp,by simp [KW.addTh],by simp⟩
theorem aAppendOwn_sound (hI:Inv K w H) {t u ty:TypeId} {s a:AV} {sv x:Value} (hs:Rep K w s sv) (hx:Rep K w a x) (h:aAppendOwn P H Kn t u s a):Gives P K w H Kn (do pure (.value (←Builtin.append_ #[t,u] ty #[sv,x]))):=by
 unfold aAppendOwn at h
 obtain ⟨hu,h⟩:=h
 split at h
 rotate_left
 ·exact h.elim
 rename_i esz by_ z new hel hnew
 obtain ⟨hrows,hfit,he,h⟩:=h
 obtain ⟨e,i,zv,ht,hi,hz,hsz,hby,_,hzs,hesz,hbyne⟩:=elT_facts hel
 obtain ⟨news,n1,n2,n3,n4,n5⟩:=src_of (P:=P) hx hnew hrows
 subst hsz;subst hby
 rw [show sv=_ from hs]
 have hpos:0 < new.length:=List.length_pos_iff.2 he
 have hbound:new.length≤9223372036854775807:=by
  have:=Nat.le_mul_of_pos_right new.length (Nat.pos_of_ne_zero hbyne)
  omega
 have hrun:=append_out (P:=P) (w:=w) (ty:=ty) (base:=none) (sLen:=0) (sCap:=0) ht hi hz hu n1 (by omega) (by rw [Nat.zero_add];exact hfit) (by omega) (olds:=#[]) (by rfl) (n2 w.drew rfl)
 rw [Nat.zero_add] at hrun
 have hcapl:=le_grownCap (w:=w) (need:=new.length) (old:=0) (e:=e)
 generalize grownCap w new.length 0 e=cp at hrun hcapl
 obtain ⟨K',g1,g2⟩:=vec_new (rows:=new) (esz:=i.size) (c:=#[]++news++Builtin.zeroCells zv.cells (cp - new.length)) (e:=e) (cap:=cp) (pre:=news.toList) (rest:=(Builtin.zeroCells zv.cells (cp - new.length)).toList) hI (Add.drew_alloc w _)
  (by simp) n3 hcapl (by
   simp only [Array.size_append,List.size_toArray,List.length_nil,n5,zeroCells_size,hzs]
   rw [Nat.zero_add,←Nat.add_mul];congr 1;omega)
 exact ⟨_,_,_,K',_,.inl (by simp only [Sem.run_bind,hrun,Result.andThen_ok,Sem.run_pure]),g1,g2,h⟩
theorem lit_new (hI:Inv K w H) {w':World} {c:Array Value} {e:TypeId} {rows:List (List AV)} {cap esz:Nat} {pre rest:List Value} (hA:Add w w' (.cells c e (0,0)))
  (hc:c.toList=pre++rest) (hr:RepL K w rows.flatten pre) (h1:∀ y∈pre,y.oneCell'=true) (hl:∀ r∈rows,r.length=esz) (hcap:rows.length≤cap) (hsz:c.size=cap * esz) :
  ∃ K',Ext K w H K' w' H∧Rep K' w' (.slice rows none) (.slice (some ⟨w.heap.size,0,none⟩) rows.length cap):=by
 obtain ⟨K1,g1,g2⟩:=slice_new hI hA hc hr h1 hl hcap hsz
 refine ⟨K1.cut H.next,Ext.reset hI g1 ⟨Nat.le_succ _,fun i B hB=>⟨(hI.closed i B hB).1,(hI.closed i B hB).2,B,?_,WkB.refl B⟩⟩ (Nat.le_refl _),?_⟩
 ·have:=(hI.closed i B hB).1
  simp only [AHeap.alloc]
  rw [if_neg (by omega)];exact hB
 ·have hlow:lowR H.next rows:=lowR_flatten.1 (RepL.low (fun i b h=>(hI.ioLt i b h).1) (fun t e r h=>(hI.thLt t e r h).1) _ _ hr)
  obtain ⟨a,len,cp,q1,q2,q3,q4,q5,q6⟩:=g2
  exact Rep.cut (.slice rows none) _ ⟨by simp,hlow⟩ ⟨a,len,cp,q1,q2,q3,q4,by simp,q6⟩
theorem aBuildSlice_sound (hI:Inv K w H) {md:Nat→Mode} {d:Option Nat} {t:TypeId} {len:Nat} {parts:List (Nat × AV)} {cparts:Array (Nat × Value)} (hr:RepP K w parts cparts.toList)
  (h:aBuildSlice P md H Kn d t len parts):Gives P K w H Kn (do pure (.value (←Instr.buildSlice t len cparts))):=by
 unfold aBuildSlice at h
 split at h
 rotate_left
 ·exact h.elim
 rename_i esz by_ z hel
 obtain ⟨hlim,hlen,h⟩:=h
 obtain ⟨e,i,zv,ht,hi,hz,rfl,rfl,_,hzs,hesz,_⟩:=elT_facts hel
 split at h
 rotate_left
 ·exact h.elim
 rename_i rows hrows
 have hlim':¬ (len * i.size > 2 ^ 24):=by omega
 by_cases hl0:len=0
 ·subst hl0
  obtain rfl:parts=[]:=by simpa using hlen
  have hc0:cparts.toList=[]:=hr
  simp only [litRows,Option.some.injEq] at hrows
  subst hrows
  have hA:=Add.alloc w (.cells #[] e)
  have hrun:(Instr.buildSlice t 0 cparts).run P w=.ok (.slice (some ⟨w.heap.size,0,none⟩) 0 0) (w.alloc (.cells #[] e)):=by
   simp [Instr.buildSlice,Sem.run_bind,run_underlying ht w,sizeOf,typeInfo,hi,hc0,Instr.fill,newRow,range0]
  split at h
  ·obtain ⟨K',g1,g2⟩:=ms_new (n:=0) (cap:=0) hI hA (l:=[]) rfl (Nat.le_refl _)
   exact ⟨_,_,_,K',_,.inl (by simp only [Sem.run_bind,hrun,Result.andThen_ok,Sem.run_pure]),g1,g2,h⟩
  split at h
  ·obtain ⟨K',g1,g2⟩:=vec_new (rows:=[]) (cap:=0) (esz:=i.size) (pre:=[]) (rest:=[]) hI hA rfl rfl (Nat.le_refl _) (by simp)
   exact ⟨_,_,_,K',_,.inl (by simp only [Sem.run_bind,hrun,Result.andThen_ok,Sem.run_pure];rfl),g1,g2,h⟩
  split at h
  ·obtain ⟨K',g1,g2⟩:=lit_new (rows:=[]) (cap:=0) (esz:=i.size) (pre:=[]) (rest:=[]) hI hA rfl rfl (by simp) (by simp) (Nat.le_refl _) (by simp)
   exact ⟨_,_,_,K',_,.inl (by simp only [Sem.run_bind,hrun,Result.andThen_ok,Sem.run_pure];rfl),g1,g2,h⟩
  ·obtain ⟨K',g1,g2⟩:=slice_new (rows:=[]) (cap:=0) (esz:=i.size) (pre:=[]) (rest:=[]) hI hA rfl rfl (by simp) (by simp) (Nat.le_refl _) (by simp)
   exact ⟨_,_,_,K',_,.inl (by simp only [Sem.run_bind,hrun,Result.andThen_ok,Sem.run_pure];rfl),g1,g2,h⟩
 ·have hne:¬ (len * i.size=0):=by
   intro h0;rcases Nat.mul_eq_zero.1 h0 with h1 | h1
   ·exact hl0 h1
   ·exact hesz h1
  obtain ⟨mid,cells',q1,q2,q3,q4,q5,q6⟩:=litRows_rep (pre:=[]) (cells:=(Array.range (len * i.size)).map (fun j=>zv.cells[j % zv.cells.size]!)) hr hrows (by simp) (by simp) (by simp [hlen])
  simp only [List.nil_append,Nat.zero_add,hlen] at q2
  rw [List.drop_eq_nil_of_le (by simp),List.append_nil] at q2
  have hsz:cells'.size=len * i.size:=by
   rw [←Array.length_toList,q2,←q3.length,flatten_length q5,q6,hlen]
  have hA:=Add.alloc w (.cells cells' e)
  have hrun:(Instr.buildSlice t len cparts).run P w=.ok (.slice (some ⟨w.heap.size,0,none⟩) len len) (w.alloc (.cells cells' e)):=by
   simp only [Instr.buildSlice,Sem.run_bind,run_underlying ht w,Result.andThen_ok,sizeOf,typeInfo,run_program,hi,Sem.run_pure,hlim',if_false,hne,zeroValue,hz,q1,newRow,run_newObj,World.alloc_eq]
  split at h
  ·obtain ⟨K',g1,g2⟩:=ms_new (n:=len) (cap:=len) hI hA (l:=rows.flatten) (by rw [q2];exact q3) (Nat.le_refl _)
   exact ⟨_,_,_,K',_,.inl (by simp only [Sem.run_bind,hrun,Result.andThen_ok,Sem.run_pure]),g1,g2,h⟩
  have hrl:rows.length=len:=by rw [q6,hlen]
  split at h
  ·obtain ⟨K',g1,g2⟩:=vec_new (rows:=rows) (cap:=len) (esz:=i.size) (pre:=mid) (rest:=[]) hI hA (by rw [q2,List.append_nil]) q3 (by omega) hsz
   rw [hrl] at g1 g2
   exact ⟨_,_,_,K',_,.inl (by simp only [Sem.run_bind,hrun,Result.andThen_ok,Sem.run_pure]),g1,g2,h⟩
  split at h
  ·have hrl:rows.length=len:=by rw [q6,hlen]
   obtain ⟨K',g1,g2⟩:=lit_new (rows:=rows) (cap:=len) (esz:=i.size) (pre:=mid) (rest:=[]) hI hA (by rw [q2,List.append_nil]) q3 q4 q5 (by omega) hsz
   rw [hrl] at g2
   exact ⟨_,_,_,K',_,.inl (by simp only [Sem.run_bind,hrun,Result.andThen_ok,Sem.run_pure]),g1,g2,h⟩
  ·have hrl:rows.length=len:=by rw [q6,hlen]
   obtain ⟨K',g1,g2⟩:=slice_new (rows:=rows) (cap:=len) (esz:=i.size) (pre:=mid) (rest:=[]) hI hA (by rw [q2,List.append_nil]) q3 q4 q5 (by omega) hsz
   rw [hrl] at g1 g2
   exact ⟨_,_,_,K',_,.inl (by simp only [Sem.run_bind,hrun,Result.andThen_ok,Sem.run_pure]),g1,g2,h⟩
theorem range_flat {α:Type} (z:List α) (d:α):∀ n:Nat,(List.range (n * z.length)).map (fun j=>z.getD (j % z.length) d)=(List.replicate n z).flatten
 | 0=>by simp
 | n+1=>by
  rw [Nat.succ_mul,List.range_add,List.map_append,range_flat z d n,List.replicate_succ',List.flatten_append]
  congr 1
  simp only [List.map_map,List.flatten_cons,List.flatten_nil,List.append_nil]
  apply List.ext_getElem (by simp)
  intro j h1 h2
  have hj:(n * z.length+j) % z.length=j:=by rw [Nat.mul_comm,Nat.mul_add_mod];exact Nat.mod_eq_of_lt h2
  simp [hj,List.getD,h2]
theorem aMakeSlice_sound (hI:Inv K w H) {md:Nat→Mode} {d:Option Nat} {t:TypeId} {a b:AV} {x y:Value} (ha:Rep K w a x) (hb:Rep K w b y) (h:aMakeSlice P md H Kn d t a b):Gives P K w H Kn (do pure (.value (←Instr.makeSlice t x y))):=by
 unfold aMakeSlice at h
 split at h
 rotate_left
 ·exact h.elim
 rename_i esz by_ z l c hel
 obtain ⟨h0,h1,h2,h3,h⟩:=h
 obtain ⟨e,i,zv,ht,hi,hz,rfl,rfl,rfl,hzs,hesz,_⟩:=elT_facts hel
 rw [show x=_ from ha,show y=_ from hb]
 have hwl:IntKind.i64.wrap l=l:=by simp [IntKind.wrap,IntKind.bits,IntKind.signed];omega
 have hwc:IntKind.i64.wrap c=c:=by simp [IntKind.wrap,IntKind.bits,IntKind.signed];omega
 have hb1:¬ (281474976710656 < (i.bytes:Int) * c):=by rw [Int.mul_comm];omega
 have hrun:(Instr.makeSlice t (.int .i64 l) (.int .i64 c)).run P w=.ok (.slice (some ⟨w.heap.size,0,none⟩) l.toNat c.toNat)
   (w.alloc (.cells ((Array.range (c.toNat * i.size)).map (fun j=>zv.cells[j % zv.cells.size]!)) e)):=by
  have e1:¬ c < 0:=by omega
  have e2:¬ l < 0:=by omega
  have e3:¬ l > c:=by omega
  by_cases hn:c.toNat * i.size=0
  ·simp [Instr.makeSlice,Sem.run_bind,run_underlying ht w,asInt,asIntOf,typeInfo,hi,hwl,hwc,e1,e2,e3,hb1,sizeOf,hn,newRow,range0]
  ·simp [Instr.makeSlice,Sem.run_bind,run_underlying ht w,asInt,asIntOf,typeInfo,hi,hwl,hwc,e1,e2,e3,hb1,sizeOf,hn,newRow,zeroValue,hz]
 have hA:=Add.alloc w (.cells ((Array.range (c.toNat * i.size)).map (fun j=>zv.cells[j % zv.cells.size]!)) e)
 have hlist:((Array.range (c.toNat * i.size)).map (fun j=>zv.cells[j % zv.cells.size]!)).toList=(List.range (c.toNat * i.size)).map (fun j=>zv.cells.toList.getD (j % i.size) undef):=by
  rw [Array.toList_map,Array.toList_range]
  apply List.map_congr_left
  intro j _
  have:j % i.size < zv.cells.size:=by rw [hzs];exact Nat.mod_lt _ (Nat.pos_of_ne_zero hesz)
  rw [hzs]
  simp [List.getD,this]
 have hrep:RepL K w ((List.range (c.toNat * i.size)).map fun j=>.v (zv.cells.toList.getD (j % i.size) undef)) ((Array.range (c.toNat * i.size)).map (fun j=>zv.cells[j % zv.cells.size]!)).toList:=by
  rw [hlist];exact RepL.map fun _ _=>rfl
 split at h
 ·obtain ⟨K',g1,g2⟩:=ms_new (n:=l.toNat) (cap:=c.toNat) hI hA hrep (by omega)
  exact ⟨_,_,_,K',_,.inl (by simp only [Sem.run_bind,hrun,Result.andThen_ok,Sem.run_pure]),g1,g2,h⟩
 ·split at h
  ·obtain ⟨id,hid,h⟩:=h
   have g1:=fillVar_ext hI hid hA hrep
   exact ⟨_,.ms id 0 l.toNat,_,_,_,.inl (by simp only [Sem.run_bind,hrun,Result.andThen_ok,Sem.run_pure]),g1,⟨w.heap.size,c.toNat,by simp [KW.addIo],rfl,by omega⟩,h⟩
  ·split at h
   ·obtain ⟨hlc,h⟩:=h
    subst hlc
    have hz2:zv.cells.toList.length=i.size:=by rw [Array.length_toList];exact hzs
    have hfl:=range_flat zv.cells.toList undef l.toNat
    rw [hz2] at hfl
    obtain ⟨K',g1,g2⟩:=vec_new (rows:=List.replicate l.toNat (zv.cells.toList.map AV.v)) (cap:=l.toNat) (esz:=i.size) (pre:=(List.replicate l.toNat zv.cells.toList).flatten) (rest:=[]) hI hA (by rw [hlist,hfl,List.append_nil]) (by rw [←List.map_replicate,←List.map_flatten];exact RepL.vs _ _ _) (by simp) (by simp)
    simp only [List.length_replicate] at g1 g2
    exact ⟨_,_,_,K',_,.inl (by simp only [Sem.run_bind,hrun,Result.andThen_ok,Sem.run_pure]),g1,g2,h⟩
   ·exact h.elim
end
end Go.Abs
namespace Go.Abs
open Go
section
variable {P:Program} {K:KW} {w:World} {H:AHeap} {Kn:AV→AHeap→Prop}
theorem sameNow_keq {d:TypeDesc} {k e:Value} (hk:keyOk d k=true) (he:keyOk d e=true):Instr.sameNow d k e=some (keq k e):=by
 cases d <;> cases k <;> simp only [keyOk,Bool.false_eq_true,beq_iff_eq] at hk <;> cases e <;> simp only [keyOk,Bool.false_eq_true,beq_iff_eq] at he
 ·simp [Instr.sameNow,keq]
 ·subst hk;subst he;simp [Instr.sameNow,keq]
 ·simp only [Instr.sameNow,keq,ba_beq]
theorem keq_eq {k e:Value} (h:keq k e=true):e=k:=by
 cases k <;> cases e <;> simp_all [keq]
theorem find_rep {d:TypeDesc} {key:Value} (hk:keyOk d key=true):∀ {es:List (Value × AV)} {xs:List MapEntry} (i:Nat),(∀ e∈es,keyOk d e.1=true)→RepEs K w es xs →
  match aLook es key with
  | some a=>∃ j v e,Instr.findNow d key xs i=some (some (i+j,v))∧Rep K w a v∧xs[j]?=some e∧e.key=key ∧
    (∀ x y,Rep K w x y→RepEs K w (aPut es key x) (xs.modify j fun e=>{ e with key,val:=y }))∧RepEs K w (aDel es key) (xs.eraseIdx j)
  | none=>Instr.findNow d key xs i=some none∧aDel es key=es∧∀ x y n,Rep K w x y→RepEs K w (aPut es key x) (xs++[{ key,val:=y,born:=n }])
 | [],xs,i,_,hr=>by
  rw [show xs=[] from hr]
  exact ⟨rfl,rfl,fun x y n h=>⟨_,_,rfl,rfl,h,rfl⟩⟩
 | (k,a)::es,_,i,he,⟨y,ys,e,hky,hy,hr⟩=>by
  subst e
  have h1:Instr.sameNow d key y.key=some (keq key k):=by rw [hky];exact sameNow_keq hk (he (k,a) (by simp))
  cases hq:keq key k with
  | true =>
   have hkk:=keq_eq hq
   have:aLook ((k,a)::es) key=some a:=by simp [aLook,hq]
   rw [this]
   refine ⟨0,y.val,y,by simp [Instr.findNow,h1,hq],hy,rfl,by rw [hky,hkk],fun x z hx=>?_,?_⟩
   ·simp only [aPut,hq,if_true,List.modify_zero_cons]
    exact ⟨_,_,rfl,rfl,hx,hr⟩
   ·simp only [aDel,hq,if_true,List.eraseIdx_zero,List.tail_cons];exact hr
  | false =>
   have hl:aLook ((k,a)::es) key=aLook es key:=by simp [aLook,hq]
   rw [hl]
   have ih:=find_rep hk (i+1) (fun e h=>he e (by simp [h])) hr
   cases hz:aLook es key with
   | some a' =>
    rw [hz] at ih
    obtain ⟨j,v,e,g1,g2,g3,g4,g5,g6⟩:=ih
    refine ⟨j+1,v,e,by simp only [Instr.findNow,h1,hq];rw [g1];simp;omega,g2,by simpa using g3,g4,fun x z hx=>?_,?_⟩
    ·simp only [aPut,hq,Bool.false_eq_true,if_false,List.modify_succ_cons]
     exact ⟨y,_,rfl,hky,hy,g5 x z hx⟩
    ·simp only [aDel,hq,Bool.false_eq_true,if_false,List.eraseIdx_cons_succ]
     exact ⟨y,_,rfl,hky,hy,g6⟩
   | none =>
    rw [hz] at ih
    obtain ⟨g1,g2,g3⟩:=ih
    refine ⟨by simp only [Instr.findNow,h1,hq];exact g1,by simp [aDel,hq,g2],fun x z n hx=>?_⟩
    simp only [aPut,hq,Bool.false_eq_true,if_false]
    exact ⟨y,_,rfl,hky,hy,g3 x z n hx⟩
theorem mapT_facts {t:TypeId} {d:TypeDesc} {z:Value} (h:mapT P t=some (d,z)):∃ k e i,P.underlying t=some (.map k e)∧P.underlying k=some d∧P.info? e=some i∧i.zero=some z∧(d=.string∨(∃ k,d=.int k)∨d=.bool):=by
 unfold mapT at h
 split at h
 ·rename_i k e hu
  have hz:∀ zv,zeroT P e=some zv→∃ i,P.info? e=some i∧i.zero=some zv:=by
   intro zv hz
   unfold zeroT at hz
   cases hi:P.info? e with
   | none=>simp [hi] at hz
   | some i=>exact ⟨i,rfl,by simpa [hi] using hz⟩
  split at h
  ·rename_i zv hk hzz
   simp only [Option.some.injEq,Prod.mk.injEq] at h
   obtain ⟨rfl,rfl⟩:=h
   obtain ⟨i,h1,h2⟩:=hz _ hzz
   exact ⟨k,e,i,hu,hk,h1,h2,.inl rfl⟩
  ·rename_i j zv hk hzz
   simp only [Option.some.injEq,Prod.mk.injEq] at h
   obtain ⟨rfl,rfl⟩:=h
   obtain ⟨i,h1,h2⟩:=hz _ hzz
   exact ⟨k,e,i,hu,hk,h1,h2,.inr (.inl ⟨j,rfl⟩)⟩
  ·rename_i zv hk hzz
   simp only [Option.some.injEq,Prod.mk.injEq] at h
   obtain ⟨rfl,rfl⟩:=h
   obtain ⟨i,h1,h2⟩:=hz _ hzz
   exact ⟨k,e,i,hu,hk,h1,h2,.inr (.inr rfl)⟩
  ·cases h
 ·cases h
theorem checkKey_at (n:Nat) {b:Bool} {k:TypeId} {d:TypeDesc} {v:Value} (hk:P.underlying k=some d) (hd:d=.string∨(∃ j,d=.int j)∨d=.bool):(Instr.checkKey b (n+1) k v).run P w=.ok () w:=by
 unfold Instr.checkKey
 rw [Sem.run_bind,run_underlying hk w,Result.andThen_ok]
 rcases hd with rfl | ⟨j,rfl⟩ | rfl <;> rfl
theorem checkKey_run {b:Bool} {k:TypeId} {d:TypeDesc} {v:Value} (hk:P.underlying k=some d) (hd:d=.string∨(∃ j,d=.int j)∨d=.bool):(Instr.checkKey b 10000 k v).run P w=.ok () w:=checkKey_at 9999 hk hd
theorem blk_map (hI:Inv K w H) {id v:Nat} {es:List (Value × AV)} (h:H.get id=some (.amap es v)) :
  ∃ b en ck,K.io id=some b∧w.heap[b]?=some (.map en ck)∧RepEs K w es en.toList∧K.bn id v=some (en.toList.map (·.born),ck) ∧
   (en.toList.map (·.born)).Nodup∧(∀ n∈en.toList.map (·.born),n < ck)∧∀ u r,K.bn id u=some r→u≤v:=(hI.blk id _ h).2
theorem getObj_map {b:Nat} {en:Array MapEntry} {ck:Nat} (h:w.heap[b]?=some (.map en ck)):(getObj b).run P w=.ok (.map en ck) w:=by
 simp [getObj,Sem.run,h]
theorem aLookup_sound (hI:Inv K w H) {t:TypeId} {m k:AV} {x y:Value} {ok:Bool} (hm:Rep K w m x) (hk:Rep K w k y) (h:aLookup P H Kn t m k ok):Gives P K w H Kn (do pure (.value (←Instr.lookup t x y ok))):=by
 unfold aLookup at h
 split at h
 rotate_left
 ·exact h.elim
 rename_i d z key hmt
 obtain ⟨hkey,h⟩:=h
 obtain ⟨kt,e,i,hu,hku,hi,hz,hd⟩:=mapT_facts hmt
 rw [show y=_ from hk]
 have zero:∀ (b:Nat) (en:Array MapEntry) (ck:Nat),w.heap[b]?=some (.map en ck)→Instr.findNow d key en.toList 0=some none →
   (Instr.lookup t (.map (some b)) key ok).run P w=.ok (if ok then .tuple #[z,.bool false] else z) w:=by
  intro b en ck h2 hf
  cases ok <;> simp [Instr.lookup,Sem.run_bind,run_underlying hu w,getObj_map h2,checkKey_run hku hd,Instr.findKey,run_underlying hku w,hf,zeroValue,typeInfo,hi,hz]
 have zero0:(Instr.lookup t (.map none) key ok).run P w=.ok (if ok then .tuple #[z,.bool false] else z) w:=by
  cases ok <;> simp [Instr.lookup,Sem.run_bind,run_underlying hu w,checkKey_run hku hd,Instr.findKey,run_underlying hku w,Instr.findNow,zeroValue,typeInfo,hi,hz]
 have zrep:Rep K w (if ok then .tuple [.ofValue z,.v (.bool false)] else .ofValue z) (if ok then .tuple #[z,.bool false] else z):=by
  cases ok
  ·exact rep_ofValue K w z
  ·exact ⟨_,rfl,z,_,rfl,rep_ofValue K w z,_,[],rfl,rfl,rfl⟩
 split at h
 ·rename_i id
  obtain ⟨b,hb,rfl⟩:=hm
  split at h
  rotate_left
  ·exact h.elim
  rename_i es v hes
  obtain ⟨hkeys,h⟩:=h
  obtain ⟨b',en,ck,h1,h2,h3,_⟩:=blk_map hI hes
  obtain rfl:b=b':=by rw [hb] at h1;simpa using h1
  have hf:=find_rep hkey 0 hkeys h3
  split at h
  ·rename_i a ha
   rw [ha] at hf
   obtain ⟨j,vv,e',g1,g2,_⟩:=hf
   have hrun:(Instr.lookup t (.map (some b)) key ok).run P w=.ok (if ok then .tuple #[vv,.bool true] else vv) w:=by
    cases ok <;> simp [Instr.lookup,Sem.run_bind,run_underlying hu w,getObj_map h2,checkKey_run hku hd,Instr.findKey,run_underlying hku w,g1]
   refine Gives.pure hI hrun (v:=if ok then .tuple [a,.v (.bool true)] else a) ?_ h
   cases ok
   ·exact g2
   ·exact ⟨_,rfl,vv,_,rfl,g2,_,[],rfl,rfl,rfl⟩
  ·rename_i ha
   rw [ha] at hf
   exact Gives.pure hI (zero b en ck h2 hf.1) zrep h
 ·rw [show x=_ from hm]
  exact Gives.pure hI zero0 zrep h
 ·exact h.elim
theorem chg_obj {b:Nat} {o o':Obj} (h:w.heap[b]?=some o):Chg w { w with heap:=w.heap.setIfInBounds b o' } b o':=by
 have hlt:b < w.heap.size:=by
  rcases Nat.lt_or_ge b w.heap.size with h' | h'
  ·exact h'
  ·simp [Array.getElem?_eq_none h'] at h
 exact ⟨by simp,by simp [hlt],fun k hk=>by simp [Array.getElem?_setIfInBounds_ne (Ne.symm hk)],rfl,rfl,rfl⟩
theorem setObj_map {b:Nat} {en:Array MapEntry} {ck:Nat} {o':Obj} (h:w.heap[b]?=some (.map en ck)):(setObj b o').run P w=.ok () { w with heap:=w.heap.setIfInBounds b o' }:=by
 simp [setObj,Sem.run,h]
theorem map_write (hI:Inv K w H) {id b v v' ck ck':Nat} {es es':List (Value × AV)} {en en':Array MapEntry} (hb:K.io id=some b) (hes:H.get id=some (.amap es v)) (h2:w.heap[b]?=some (.map en ck)) (h3:RepEs K w es' en'.toList)
  (hn:(en'.toList.map (·.born)).Nodup) (hl:∀ n∈en'.toList.map (·.born),n < ck') (hv:(v'=v∧en'.toList.map (·.born)=en.toList.map (·.born)∧ck'=ck)∨v'=v+1) :
  ∃ K',Ext K w H K' { w with heap:=w.heap.setIfInBounds b (.map en' ck') } (H.upd id (.amap es' v')):=by
 obtain ⟨b0,en0,ck0,q1,q2,q3,q4,q5,q6,q7⟩:=blk_map hI hes
 obtain rfl:b=b0:=by rw [hb] at q1;simpa using q1
 obtain ⟨rfl,rfl⟩:en=en0∧ck=ck0:=by rw [h2] at q2;simpa using q2
 have hc:=chg_obj (o':=.map en' ck') h2
 have hsh:({ w with heap:=w.heap.setIfInBounds b (.map en' ck') }:World).shape? b=w.shape? b:=by
  simp only [World.shape?,h2,hc.at_]
 have hset:=chg_settled hI hb hc
 rcases hv with ⟨rfl,hbo,rfl⟩ | rfl
 ·refine ⟨K,Ext.write hI hb hes h2 hc hsh (by simp) (by simp) ⟨b,en',ck',hb,hc.at_,h3.mono (.refl K) hset,by rw [hbo];exact q4,hn,hl,q7⟩⟩
 ·refine ⟨K.addBn id (v+1) (en'.toList.map (·.born),ck'),Ext.writeBn hI rfl rfl rfl (fun m e r h=>?_) (fun m e hm=>?_) hb hes h2 hc hsh (by simp) (by simp) ?_⟩
  ·simp only [KW.addBn]
   rw [if_neg (fun he:m=id∧e=v+1=>by obtain ⟨rfl,rfl⟩:=he;have:=q7 _ _ h;omega)]
   exact h
  ·simp only [KW.addBn];rw [if_neg (fun he=>hm he.1)]
  ·have hle:KLe K (K.addBn id (v+1) (en'.toList.map (·.born),ck')):=⟨fun _ _ h=>h,fun _ _ h=>h,fun _ _ _ h=>h,fun m e r h=>by
    simp only [KW.addBn]
    rw [if_neg (fun he:m=id∧e=v+1=>by obtain ⟨rfl,rfl⟩:=he;have:=q7 _ _ h;omega)]
    exact h⟩
   refine ⟨b,en',ck',hb,hc.at_,h3.mono hle hset,by simp [KW.addBn],hn,hl,fun u r h=>?_⟩
   simp only [KW.addBn] at h
   split at h
   ·omega
   ·have:=q7 u r h;omega
theorem keyThat_run {old new:Value} {d:TypeDesc} (hk:keyOk d new=true) (h:old=new):(Instr.keyThatStays old new).run P w=.ok new w:=by
 subst h
 have:∀ n,Instr.sameBits n old old=true:=by
  intro n
  cases d <;> cases old <;> simp only [keyOk,Bool.false_eq_true] at hk <;> simp [Instr.sameBits,ba_beq]
 simp [Instr.keyThatStays,this]
theorem born_modify {key:Value} {y:Value} (l:List MapEntry) (j:Nat):(l.modify j fun e=>{ e with key,val:=y }).map (·.born)=l.map (·.born):=by
 apply List.ext_getElem?
 intro i
 simp only [List.getElem?_map,List.getElem?_modify]
 cases l[i]? <;> simp
 split <;> rfl
theorem repEs_keys {Q:Value→Prop}:∀ {es:List (Value × AV)} {xs:List MapEntry},RepEs K w es xs→(∀ e∈es,Q e.1)→∀ x∈xs,Q x.key
 | [],xs,h,_,x,hx=>by rw [show xs=[] from h] at hx;cases hx
 | (k,a)::es,_,⟨y,ys,e,hk,_,hr⟩,hq,x,hx=>by
  subst e
  rcases List.mem_cons.1 hx with rfl | hx
  ·rw [hk];exact hq (k,a) (by simp)
  ·exact repEs_keys hr (fun e he=>hq e (by simp [he])) x hx
theorem repEs_push {key:Value} {a:AV} {y:Value} {n:Nat} (ha:Rep K w a y):∀ {es:List (Value × AV)} {xs:List MapEntry},RepEs K w es xs→RepEs K w (es++[(key,a)]) (xs++[{ key,val:=y,born:=n }])
 | [],xs,h=>by rw [show xs=[] from h];exact ⟨_,_,rfl,rfl,ha,rfl⟩
 | (k,b)::es,_,⟨z,zs,e,hk,hz,hr⟩=>by subst e;exact ⟨z,_,rfl,hk,hz,repEs_push ha hr⟩
theorem repL_one:∀ {cs:List AV} {xs vs:List Value},RepL K w cs xs→cs.mapM oneV=some vs→xs=vs
 | [],xs,vs,h,e=>by
  rw [show xs=[] from h];simpa using e
 | a::cs,_,vs,⟨y,ys,e,hy,hr⟩,h=>by
  subst e
  simp only [List.mapM_cons,Option.pure_def,Option.bind_eq_bind,Option.bind_eq_some_iff,Option.some.injEq] at h
  obtain ⟨c,hc,cs',hcs,rfl⟩:=h
  have:y=c:=by
   cases a <;> simp only [oneV,Option.some.injEq,reduceCtorEq] at hc
   subst hc;exact hy
  rw [this,repL_one hr hcs]
theorem aMapNew_sound (hI:Inv K w H) {t:TypeId} {id:Nat} {cs:List AV} {a:AV} {x y z:Value} (hm:Rep K w (.map id) x) (hk:Rep K w (.agg cs) y) (ha:Rep K w a z) (h:aMapNew P H Kn t id cs a):Gives P K w H Kn (do Instr.mapUpdate t x y z;pure .skip):=by
 unfold aMapNew at h
 split at h
 rotate_left
 ·exact h.elim
 rename_i kt et vs hu hvs
 obtain ⟨hw,hko,h⟩:=h
 split at h
 rotate_left
 ·exact h.elim
 rename_i es v hes
 obtain ⟨hkeys,h⟩:=h
 unfold wideK at hw
 simp only [Bool.and_eq_true] at hw
 have law:=deep_law (P:=P) (m:=3) (by omega) hw.1.1 hw.1.2 hw.2
 obtain ⟨l,hl⟩:=Option.isSome_iff_exists.1 hko
 obtain ⟨ys,rfl,hr⟩:=hk
 obtain rfl:ys=vs.toArray:=by rw [←repL_one hr hvs]
 obtain ⟨b,hb,rfl⟩:=hm
 obtain ⟨b',en,ck,h1,h2,h3,h4,h5,h6,h7⟩:=blk_map hI hes
 obtain rfl:b=b':=by rw [hb] at h1;simpa using h1
 have hfind:(Instr.findKey kt (.agg vs.toArray) en.toList).run P w=.ok none w:=by
  rcases law.find w hl en.toList (repEs_keys (Q:=fun k=>∃ l,keyOf P kt k=some l) h3 fun e he=>Option.isSome_iff_exists.1 (hkeys e he).1) with ⟨g,_⟩ | ⟨j,e,_,g2,g3⟩
  ·exact g
  ·exact absurd g3 (repEs_keys (Q:=fun k=>k≠.agg vs.toArray) h3 (fun e he=>(hkeys e he).2) e (List.mem_of_getElem? g2))
 have hrun:(Instr.mapUpdate t (.map (some b)) (.agg vs.toArray) z).run P w=.ok () { w with heap:=w.heap.setIfInBounds b (.map (en.push { key:=.agg vs.toArray,val:=z,born:=ck }) (ck+1)) }:=by
  simp [Instr.mapUpdate,Sem.run_bind,run_underlying hu w,getObj_map h2,law.check w false hl,hfind,setObj_map h2]
 have hml:(en.push { key:=.agg vs.toArray,val:=z,born:=ck }).toList=en.toList++[{ key:=.agg vs.toArray,val:=z,born:=ck }]:=by simp
 obtain ⟨K',g⟩:=map_write (v':=v+1) (ck':=ck+1) hI hb hes h2 (es':=es++[(.agg vs.toArray,a)]) (en':=en.push { key:=.agg vs.toArray,val:=z,born:=ck }) (by rw [hml];exact repEs_push ha h3)
  (by
   rw [hml,List.map_append,List.nodup_append]
   refine ⟨h5,by simp,fun n hn m hm=>?_⟩
   simp only [List.map_cons,List.map_nil,List.mem_singleton] at hm
   have:=h6 n hn;omega)
  (by
   intro n hn
   rw [hml,List.map_append,List.mem_append] at hn
   rcases hn with hn | hn
   ·have:=h6 n hn;omega
   ·simp only [List.map_cons,List.map_nil,List.mem_singleton] at hn;omega)
  (.inr rfl)
 exact ⟨undef,.undef,_,K',_,.inr ⟨by simp only [Sem.run_bind,hrun,Result.andThen_ok,Sem.run_pure],rfl⟩,g,trivial,h⟩
theorem aCopy_sound (hI:Inv K w H) {t u ty:TypeId} {d s:AV} {x y:Value} (hd:Rep K w d x) (hs:Rep K w s y) (h:aCopy P H Kn t d s):Gives P K w H Kn (do pure (.value (←Builtin.copy_ #[t,u] ty #[x,y]))):=by
 unfold aCopy at h
 split at h
 rotate_left
 ·exact h.elim
 rename_i esz by_ z id off len rows tok hel
 obtain ⟨rfl,hne,hr1,h⟩:=h
 split at h
 rotate_left
 ·exact h.elim
 rename_i l hl
 obtain ⟨hle,h⟩:=h
 obtain ⟨e,i,zv,hu,hi',_,hsz,_⟩:=elT_facts hel
 obtain ⟨b,cap,hio,rfl,hlc⟩:=hd
 obtain ⟨ad,slen,scap,rfl,rfl,hsc,_,_,h5⟩:=hs
 obtain ⟨ad',esz',rfl,hsp,hrows⟩:=h5 hne
 obtain rfl:esz'=1:=by
  cases rows with
  | nil=>exact absurd rfl hne
  | cons r rs=>rw [←hrows.1];exact hr1 r (by simp)
 obtain ⟨b',c,ee,h1,h2,pre,rest,h3,h4⟩:=blk_cells hI hl
 obtain rfl:b=b':=by rw [hio] at h1;simpa using h1
 have hfl:=(hrows.take (min rows.length len)).flat
 obtain ⟨xs,hx1,hx2,hx3⟩:=hfl.1.cells
 have hxl:xs.length=min rows.length len:=by rw [←hx2.length,hfl.2,List.length_take];omega
 have hsz':(P.info? e).map (·.size)=some 1:=by rw [hi'];simp only [Option.map_some,Option.some.injEq];omega
 have hpre:=h4.length
 have hcsz:c.size=pre.length+rest.length:=by rw [←Array.length_toList,h3,List.length_append]
 obtain ⟨bl,so,sp⟩:=ad'
 obtain rfl:sp=none:=hsp
 have hrun:=run_copy_row (P:=P) w t u ty e b off len cap ⟨bl,so,none⟩ rows.length scap c ee xs hu hsz' h2 hxl (fun j v hv=>by rw [addr_add];exact hx1 j v hv) (by rw [hxl];omega) hx3
 refine ⟨.int .i64 (min rows.length len:Nat),.v (.int .i64 (min rows.length len:Nat)),_,K,_,.inl ?_,store_ext hI hio hl h2 (c':=(c.toList.take off++xs++c.toList.drop (off+xs.length)).toArray) (pre':=pre.take off++xs++pre.drop (off+xs.length)) (rest':=rest) ?_ ?_ (splice_rep h4 hx2),rfl,h⟩
 ·simp only [Sem.run_bind,hrun,Result.andThen_ok,Sem.run_pure,hxl]
  rfl
 ·have q5:(pre++rest).take off=pre.take off:=List.take_append_of_le_length (by omega)
  have q6:(pre++rest).drop (off+xs.length)=pre.drop (off+xs.length)++rest:=List.drop_append_of_le_length (by omega)
  simp only [h3,q5,q6,List.append_assoc]
 ·simp only [List.size_toArray,List.length_append,List.length_take,List.length_drop,Array.length_toList,hxl]
  omega
theorem aMapUpdate_sound (hI:Inv K w H) {t:TypeId} {m k a:AV} {x y z:Value} (hm:Rep K w m x) (hk:Rep K w k y) (ha:Rep K w a z) (h:aMapUpdate P H Kn t m k a):Gives P K w H Kn (do Instr.mapUpdate t x y z;pure .skip):=by
 unfold aMapUpdate at h
 split at h
 rotate_left
 ·exact aMapNew_sound hI hm hk ha h
 ·exact h.elim
 rename_i d zv id key hmt
 obtain ⟨hkey,h⟩:=h
 split at h
 rotate_left
 ·exact h.elim
 rename_i es v hes
 obtain ⟨hkeys,h⟩:=h
 obtain ⟨kt,e,i,hu,hku,hi,hz,hd⟩:=mapT_facts hmt
 rw [show y=_ from hk]
 obtain ⟨b,hb,rfl⟩:=hm
 obtain ⟨b',en,ck,h1,h2,h3,h4,h5,h6,h7⟩:=blk_map hI hes
 obtain rfl:b=b':=by rw [hb] at h1;simpa using h1
 have hf:=find_rep hkey 0 hkeys h3
 cases hl:aLook es key with
 | some a0 =>
  rw [hl] at hf
  obtain ⟨j,vv,e',g1,g2,g3,g4,g5,g6⟩:=hf
  rw [Nat.zero_add] at g1
  have hv:aVer es key v true=v:=by simp [aVer,hl]
  rw [hv] at h
  have hrun:(Instr.mapUpdate t (.map (some b)) key z).run P w=.ok () { w with heap:=w.heap.setIfInBounds b (.map (en.modify j fun e=>{ e with key,val:=z }) ck) }:=by
   have e1:en[j]?=some e':=by simpa using g3
   simp [Instr.mapUpdate,Sem.run_bind,run_underlying hu w,getObj_map h2,checkKey_run hku hd,Instr.findKey,run_underlying hku w,g1,e1,keyThat_run hkey g4,setObj_map h2]
  have hml:(en.modify j fun e=>{ e with key,val:=z }).toList=en.toList.modify j fun e=>{ e with key,val:=z }:=by simp
  obtain ⟨K',g⟩:=map_write (v':=v) (ck':=ck) hI hb hes h2 (es':=aPut es key a) (en':=en.modify j fun e=>{ e with key,val:=z }) (by rw [hml];exact g5 a z ha) (by rw [hml,born_modify];exact h5) (by rw [hml,born_modify];exact h6)
   (.inl ⟨rfl,by rw [hml,born_modify],rfl⟩)
  exact ⟨undef,.undef,_,K',_,.inr ⟨by simp only [Sem.run_bind,hrun,Result.andThen_ok,Sem.run_pure],rfl⟩,g,trivial,h⟩
 | none =>
  rw [hl] at hf
  obtain ⟨g1,_,g2⟩:=hf
  have hv:aVer es key v true=v+1:=by simp [aVer,hl]
  rw [hv] at h
  have hrun:(Instr.mapUpdate t (.map (some b)) key z).run P w=.ok () { w with heap:=w.heap.setIfInBounds b (.map (en.push { key,val:=z,born:=ck }) (ck+1)) }:=by
   simp [Instr.mapUpdate,Sem.run_bind,run_underlying hu w,getObj_map h2,checkKey_run hku hd,Instr.findKey,run_underlying hku w,g1,setObj_map h2]
  have hml:(en.push { key,val:=z,born:=ck }).toList=en.toList++[{ key,val:=z,born:=ck }]:=by simp
  obtain ⟨K',g⟩:=map_write (v':=v+1) (ck':=ck+1) hI hb hes h2 (es':=aPut es key a) (en':=en.push { key,val:=z,born:=ck }) (by rw [hml];exact g2 a z ck ha)
   (by
    rw [hml,List.map_append,List.nodup_append]
    refine ⟨h5,by simp,fun n hn m hm=>?_⟩
    simp only [List.map_cons,List.map_nil,List.mem_singleton] at hm
    have:=h6 n hn;omega)
   (by
    intro n hn
    rw [hml,List.map_append,List.mem_append] at hn
    rcases hn with hn | hn
    ·have:=h6 n hn;omega
    ·simp only [List.map_cons,List.map_nil,List.mem_singleton] at hn;omega)
   (.inr rfl)
  exact ⟨undef,.undef,_,K',_,.inr ⟨by simp only [Sem.run_bind,hrun,Result.andThen_ok,Sem.run_pure],rfl⟩,g,trivial,h⟩
theorem repEs_len:∀ {es:List (Value × AV)} {xs:List MapEntry},RepEs K w es xs→es.length=xs.length
 | [],xs,h=>by rw [show xs=[] from h];rfl
 | (k,a)::es,_,⟨y,ys,e,_,_,hr⟩=>by rw [e,List.length_cons,List.length_cons,repEs_len hr]
theorem aPut_fresh {es:List (Value × AV)} {key:Value} {a:AV} (h:aLook es key=none):aPut es key a=es++[(key,a)]:=by
 induction es with
 | nil=>rfl
 | cons e es ih =>
  unfold aLook at h ih
  simp only [List.find?_cons] at h
  cases hq:keq key e.1 with
  | true=>rw [hq] at h;simp at h
  | false =>
   rw [hq] at h
   simp only [aPut,hq,Bool.false_eq_true,if_false,List.cons_append]
   rw [ih h]
theorem aMapEntry_sound (hI:Inv K w H) {t:TypeId} {m k:AV} {x y:Value} (hm:Rep K w m x) (hk:Rep K w k y) (h:aMapEntry P H Kn t m k):Gives P K w H Kn (do pure (.value (←Instr.mapEntry t x y))):=by
 unfold aMapEntry at h
 split at h
 rotate_left
 ·exact h.elim
 rename_i d zv id key hmt
 obtain ⟨hkey,h⟩:=h
 split at h
 rotate_left
 ·exact h.elim
 rename_i es v hes
 obtain ⟨hkeys,h⟩:=h
 split at h
 ·exact h.elim
 rename_i hl
 obtain ⟨kt,e,i,hu,hku,hi,hz,hd⟩:=mapT_facts hmt
 rw [show y=_ from hk]
 obtain ⟨b,hb,rfl⟩:=hm
 obtain ⟨b',en,ck,h1,h2,h3,h4,h5,h6,h7⟩:=blk_map hI hes
 obtain rfl:b=b':=by rw [hb] at h1;simpa using h1
 have hf:=find_rep hkey 0 hkeys h3
 rw [hl] at hf
 obtain ⟨g1,_,g2⟩:=hf
 have hrun:(Instr.mapEntry t (.map (some b)) key).run P w=.ok (.tuple #[zv,goInt ck]) { w with heap:=w.heap.setIfInBounds b (.map (en.push { key,val:=zv,born:=ck }) (ck+1)) }:=by
  simp [Instr.mapEntry,Sem.run_bind,run_underlying hu w,getObj_map h2,checkKey_run hku hd,Instr.findKey,run_underlying hku w,g1,setObj_map h2,zeroValue,typeInfo,hi,hz]
 have hml:(en.push { key,val:=zv,born:=ck }).toList=en.toList++[{ key,val:=zv,born:=ck }]:=by simp
 obtain ⟨K',g⟩:=map_write (v':=v+1) (ck':=ck+1) hI hb hes h2 (es':=aPut es key (.ofValue zv)) (en':=en.push { key,val:=zv,born:=ck }) (by rw [hml];exact g2 _ zv ck (rep_ofValue K w zv))
  (by
   rw [hml,List.map_append,List.nodup_append]
   refine ⟨h5,by simp,fun n hn m hm=>?_⟩
   simp only [List.map_cons,List.map_nil,List.mem_singleton] at hm
   have:=h6 n hn;omega)
  (by
   intro n hn
   rw [hml,List.map_append,List.mem_append] at hn
   rcases hn with hn | hn
   ·have:=h6 n hn;omega
   ·simp only [List.map_cons,List.map_nil,List.mem_singleton] at hn;omega)
  (.inr rfl)
 obtain ⟨b2,en2,ck2,q1,q2,q3,q4,_⟩:=blk_map (id:=id) (v:=v+1) (es:=aPut es key (.ofValue zv)) g.inv (by simp [AHeap.upd])
 obtain rfl:b=b2:=by rw [g.step.le.io _ _ hb] at q1;simpa using q1
 have hlt:b < w.heap.size:=(Array.getElem?_eq_some_iff.1 h2).1
 obtain ⟨rfl,rfl⟩:en2=en.push { key,val:=zv,born:=ck }∧ck2=ck+1:=by
  have:(w.heap.setIfInBounds b (.map (en.push { key,val:=zv,born:=ck }) (ck+1)))[b]?=some (.map (en.push { key,val:=zv,born:=ck }) (ck+1)):=by simp [hlt]
  have q2':(w.heap.setIfInBounds b (.map (en.push { key,val:=zv,born:=ck }) (ck+1)))[b]?=some (.map en2 ck2):=q2
  rw [this] at q2';simpa [eq_comm] using q2'
 have hlen:es.length=en.toList.length:=repEs_len h3
 refine ⟨.tuple #[zv,goInt ck],.tuple [.ofValue zv,.stm id es.length (v+1)],_,K',_,.inl (by simp only [Sem.run_bind,hrun,Result.andThen_ok,Sem.run_pure]),g,⟨_,rfl,zv,_,rfl,rep_ofValue _ _ zv,_,[],rfl,⟨b,_,_,ck,q1,q4,?_,rfl⟩,rfl⟩,h⟩
 rw [hml,List.map_append,hlen]
 simp
theorem repEs_set {es:List (Value × AV)}:∀ {xs:List MapEntry},RepEs K w es xs→∀ {j:Nat} {e:Value × AV} {a:AV} {y:Value},es[j]?=some e→Rep K w a y→RepEs K w (es.set j (e.1,a)) (xs.modify j fun e=>{ e with val:=y }):=by
 induction es with
 | nil=>intro xs _ j e a y h _;cases h
 | cons e0 es ih =>
  obtain ⟨k0,a0⟩:=e0
  rintro xs ⟨x,xs',rfl,h1,h2,h3⟩ j e a y he ha
  cases j with
  | zero =>
   simp only [List.getElem?_cons_zero,Option.some.injEq] at he
   subst he
   exact ⟨_,_,rfl,h1,ha,h3⟩
  | succ j =>
   simp only [List.getElem?_cons_succ] at he
   exact ⟨_,_,rfl,h1,h2,ih h3 he ha⟩
theorem aEntryStore_sound (hI:Inv K w H) {t:TypeId} {m s a:AV} {x y z:Value} (hm:Rep K w m x) (hs:Rep K w s y) (ha:Rep K w a z) (h:aEntryStore H Kn m s a):Gives P K w H Kn (do Instr.entryStore t x y z;pure .skip):=by
 unfold aEntryStore at h
 split at h
 rotate_left
 ·exact h.elim
 rename_i id id' j ver
 obtain ⟨rfl,h⟩:=h
 split at h
 rotate_left
 ·exact h.elim
 rename_i es v hes
 obtain ⟨rfl,h⟩:=h
 split at h
 rotate_left
 ·exact h.elim
 rename_i e he
 obtain ⟨b,hb,rfl⟩:=hm
 obtain ⟨b1,B,c,n,k1,k2,k3,rfl⟩:=hs
 obtain ⟨b',en,ck,h1,h2,h3,h4,h5,h6,h7⟩:=blk_map hI hes
 obtain rfl:b=b':=by rw [hb] at h1;simpa using h1
 obtain ⟨hB,hc⟩:B=en.toList.map (·.born)∧c=ck:=by rw [h4] at k2;simpa [eq_comm] using k2
 subst hB
 obtain ⟨e1,g1,g2⟩:∃ e1,en[j]?=some e1∧e1.born=n:=by
  rw [List.getElem?_map,Option.map_eq_some_iff] at k3
  obtain ⟨e1,q1,q2⟩:=k3
  exact ⟨e1,by simpa using q1,q2⟩
 have hjl:j < en.size:=(Array.getElem?_eq_some_iff.1 g1).1
 have hfi:en.findIdx? (fun e=>(e.born:Int) == (n:Int))=some j:=by
  rw [Array.findIdx?_eq_some_iff_getElem]
  refine ⟨hjl,?_,fun i hi=>?_⟩
  ·have:en[j]=e1:=by have:=Array.getElem?_eq_getElem hjl;rw [g1] at this;exact (Option.some.inj this).symm
   rw [this,g2];simp
  ·have hil:i < en.size:=by omega
   have hne:¬ en[i].born=n:=fun e=>by
    have h9:(en.toList.map (·.born))[i]?=(en.toList.map (·.born))[j]?:=by
     rw [k3,List.getElem?_map,List.getElem?_eq_getElem (by simpa using hil)]
     simp [e]
    have:=(List.getElem?_inj (by simpa using hil) h5).1 h9
    omega
   have:¬ (en[i].born:Int)=(n:Int):=by omega
   simpa using this
 have hrun:(Instr.entryStore t (.map (some b)) (goInt n) z).run P w=.ok () { w with heap:=w.heap.setIfInBounds b (.map (en.modify j fun e=>{ e with val:=z }) ck) }:=by
  simp [Instr.entryStore,Sem.run_bind,getObj_map h2,asInt,asIntOf,goInt,hfi,setObj_map h2]
 have hml:(en.modify j fun e=>{ e with val:=z }).toList=en.toList.modify j fun e=>{ e with val:=z }:=by simp
 have hbo:(en.modify j fun e=>{ e with val:=z }).toList.map (·.born)=en.toList.map (·.born):=by
  rw [hml]
  apply List.ext_getElem?
  intro i
  simp only [List.getElem?_map,List.getElem?_modify]
  cases en.toList[i]? <;> simp
  split <;> rfl
 obtain ⟨K',g⟩:=map_write (v':=v) (ck':=ck) hI hb hes h2 (es':=es.set j (e.1,a)) (en':=en.modify j fun e=>{ e with val:=z }) (by rw [hml];exact repEs_set h3 he ha) (by rw [hbo];exact h5) (by rw [hbo];exact h6) (.inl ⟨rfl,hbo,rfl⟩)
 exact ⟨undef,.undef,_,K',_,.inr ⟨by simp only [Sem.run_bind,hrun,Result.andThen_ok,Sem.run_pure],rfl⟩,g,trivial,h⟩
theorem aDelete_sound (hI:Inv K w H) {t u ty:TypeId} {m k:AV} {x y:Value} {tys:List TypeId} {more:List Value} (hm:Rep K w m x) (hk:Rep K w k y) (h:aDelete P H Kn t m k) :
  Gives P K w H Kn (do pure (.value (←Builtin.delete_ (t::tys).toArray ty (x::y::more).toArray))):=by
 unfold aDelete at h
 split at h
 rotate_left
 ·exact h.elim
 rename_i d zv id key hmt
 obtain ⟨hkey,h⟩:=h
 split at h
 rotate_left
 ·exact h.elim
 rename_i es v hes
 obtain ⟨hkeys,h⟩:=h
 obtain ⟨kt,e,i,hu,hku,hi,hz,hd⟩:=mapT_facts hmt
 rw [show y=_ from hk]
 obtain ⟨b,hb,rfl⟩:=hm
 obtain ⟨b',en,ck,h1,h2,h3,h4,h5,h6,h7⟩:=blk_map hI hes
 obtain rfl:b=b':=by rw [hb] at h1;simpa using h1
 have hf:=find_rep hkey 0 hkeys h3
 cases hl:aLook es key with
 | some a0 =>
  rw [hl] at hf
  obtain ⟨j,vv,e',g1,g2,g3,g4,g5,g6⟩:=hf
  rw [Nat.zero_add] at g1
  have hv:aVer es key v false=v+1:=by simp [aVer,hl]
  rw [hv] at h
  have hrun:(Builtin.delete_ (t::tys).toArray ty (.map (some b)::key::more).toArray).run P w=.ok (.tuple #[]) { w with heap:=w.heap.setIfInBounds b (.map (en.eraseIdxIfInBounds j) ck) }:=by
   simp [Builtin.delete_,Sem.run_bind,run_underlying hu w,getObj_map h2,checkKey_run hku hd,Instr.findKey,run_underlying hku w,g1,setObj_map h2]
  have hml:(en.eraseIdxIfInBounds j).toList=en.toList.eraseIdx j:=by simp
  have hsub:((en.toList.eraseIdx j).map (·.born)).Sublist (en.toList.map (·.born)):=(List.eraseIdx_sublist en.toList j).map _
  obtain ⟨K',g⟩:=map_write (v':=v+1) (ck':=ck) hI hb hes h2 (es':=aDel es key) (en':=en.eraseIdxIfInBounds j) (by rw [hml];exact g6) (by rw [hml];exact h5.sublist hsub) (by rw [hml];exact fun n hn=>h6 n (hsub.subset hn)) (.inr rfl)
  exact ⟨_,.tuple [],_,K',_,.inl (by simp only [Sem.run_bind,hrun,Result.andThen_ok,Sem.run_pure]),g,⟨_,rfl,rfl⟩,h⟩
 | none =>
  rw [hl] at hf
  obtain ⟨g1,gd,_⟩:=hf
  have hv:aVer es key v false=v:=by simp [aVer,hl]
  rw [hv,gd] at h
  have hrun:(Builtin.delete_ (t::tys).toArray ty (.map (some b)::key::more).toArray).run P w=.ok (.tuple #[]) { w with heap:=w.heap.setIfInBounds b (.map en ck) }:=by
   simp [Builtin.delete_,Sem.run_bind,run_underlying hu w,getObj_map h2,checkKey_run hku hd,Instr.findKey,run_underlying hku w,g1,setObj_map h2]
  obtain ⟨K',g⟩:=map_write (v':=v) (ck':=ck) hI hb hes h2 (es':=es) (en':=en) h3 h5 h6 (.inl ⟨rfl,rfl,rfl⟩)
  exact ⟨_,.tuple [],_,K',_,.inl (by simp only [Sem.run_bind,hrun,Result.andThen_ok,Sem.run_pure]),g,⟨_,rfl,rfl⟩,h⟩
theorem aMakeMap_sound (hI:Inv K w H) {t:TypeId} (h:Kn (.map H.next) (H.alloc (.amap [] 0))):Gives P K w H Kn (do pure (.value (←Instr.makeMap t none))):=by
 have hA:=Add.alloc w (.map #[] 0)
 have hno:∀ v r,K.bn H.next v≠some r:=fun v r h=>by have:=hI.bnLt _ _ _ h;omega
 refine ⟨_,.map H.next,_,(K.addIo H.next w.heap.size).addBn H.next 0 ([],0),_,.inl (by simp [Instr.makeMap,Sem.run_bind]),Ext.new hI hA rfl rfl rfl (fun m e hm=>?_) (by simp) ?_,⟨w.heap.size,by simp [KW.addIo,KW.addBn],rfl⟩,h⟩
 ·simp only [KW.addBn,KW.addIo];rw [if_neg (fun he=>hm he.1)]
 ·refine ⟨w.heap.size,#[],0,by simp [KW.addIo,KW.addBn],hA.at_,rfl,by simp [KW.addBn],by simp,by simp,fun v r h=>?_⟩
  simp only [KW.addBn,KW.addIo] at h
  split at h
  ·omega
  ·exact absurd h (hno v r)
theorem aRange_sound (hI:Inv K w H) {t:TypeId} {id v:Nat} {es:List (Value × AV)} {x:Value} (hm:Rep K w (.map id) x) (ht:isMapT P t=true) (hes:H.get id=some (.amap es v)) (h:Kn (.ref H.next 0) (H.alloc (.iter id v (List.range es.length) none))) :
  Gives P K w H Kn (do pure (.value (←Instr.range t x))):=by
 obtain ⟨k,e,hu⟩:=map_desc ht
 obtain ⟨b,hb,rfl⟩:=hm
 obtain ⟨b',en,ck,h1,h2,h3,h4,h5,h6,h7⟩:=blk_map hI hes
 obtain rfl:b=b':=by rw [hb] at h1;simpa using h1
 have hA:=Add.alloc w (.mapIter (some b) ck #[] ck)
 have hle:KLe K (K.addIo H.next w.heap.size):=⟨fun i b h=>by
  simp only [KW.addIo];rw [if_neg (fun (e:i=H.next)=>by have:=(hI.ioLt i b h).1;omega)];exact h,fun _ _ h=>h,fun _ _ _ h=>h,fun _ _ _ h=>h⟩
 refine ⟨_,.ref H.next 0,_,K.addIo H.next w.heap.size,_,.inl (by simp [Instr.range,Sem.run_bind,run_underlying hu w,getObj_map h2]),Ext.new hI hA rfl rfl rfl (fun _ _ _=>rfl) (by simp) ?_,⟨w.heap.size,by simp [KW.addIo],rfl⟩,h⟩
 refine ⟨w.heap.size,b,ck,#[],en.toList.map (·.born),by simp [KW.addIo],hle.io _ _ hb,hA.at_,hle.bn _ _ _ h4,?_,by simp⟩
 simp only [leftOf,List.length_map,h3.length]
 rw [List.filter_eq_self.2]
 intro j _;simp
theorem RepEs.get' {es:List (Value × AV)}:∀ {xs:List MapEntry},RepEs K w es xs→∀ {j:Nat} {e:Value × AV},es[j]?=some e→∃ y,xs[j]?=some y∧y.key=e.1∧Rep K w e.2 y.val:=by
 induction es with
 | nil=>intro xs _ j e h;simp at h
 | cons q es ih =>
  obtain ⟨k,a⟩:=q
  rintro xs ⟨y,ys,rfl,hk,hr,r⟩ j e h
  cases j with
  | zero=>simp only [List.getElem?_cons_zero,Option.some.injEq] at h;subst h;exact ⟨y,rfl,hk,hr⟩
  | succ j=>simp only [List.getElem?_cons_succ] at h ⊢;exact ih r h
theorem find_born:∀ {l:List MapEntry} {j:Nat} {y:MapEntry},(l.map (·.born)).Nodup→l[j]?=some y→l.find? (fun e=>e.born == y.born)=some y
 | x::l,0,y,_,h=>by simp only [List.getElem?_cons_zero,Option.some.injEq] at h;subst h;simp
 | x::l,j+1,y,hn,h=>by
  simp only [List.map_cons,List.nodup_cons] at hn
  simp only [List.getElem?_cons_succ] at h
  have hne:¬ x.born=y.born:=fun e=>hn.1 (by rw [e];exact List.mem_map_of_mem (List.mem_of_getElem? h))
  rw [List.find?_cons,show (x.born == y.born)=false by simpa using hne]
  exact find_born hn.2 h
theorem aEntry_sound (hI:Inv K w H) {a:AV} {x:Value} (ha:Rep K w a x) (h:aEntry H Kn a):Gives P K w H Kn (do pure (.value (←Instr.entry x))):=by
 unfold aEntry at h
 split at h
 rotate_left
 ·exact h.elim
 rename_i id
 obtain ⟨b,hb,rfl⟩:=ha
 split at h
 rotate_left
 ·exact h.elim
 rename_i m ver left j hit
 split at h
 rotate_left
 ·exact h.elim
 rename_i es ver' hes
 obtain ⟨rfl,h⟩:=h
 split at h
 rotate_left
 ·exact h.elim
 rename_i e he
 obtain ⟨_,b1,bm,since,seen,B,p1,p2,p3,p4,p5,p6⟩:=hI.blk id _ hit
 obtain rfl:b=b1:=by rw [hb] at p1;simpa using p1
 obtain ⟨b2,en,ck,q1,q2,q3,q4,q5,q6,q7⟩:=blk_map hI hes
 obtain rfl:bm=b2:=by rw [p2] at q1;simpa using q1
 rw [q4] at p4
 simp only [Option.some.injEq,Prod.mk.injEq] at p4
 obtain ⟨hB,rfl⟩:=p4
 obtain ⟨s,g1,g2⟩:=p6 j rfl
 obtain ⟨y,g3,g4,g5⟩:=q3.get' he
 obtain rfl:y.born=s:=by
  rw [←hB,List.getElem?_map,g3] at g2
  simpa using g2
 have hf:=find_born q5 g3
 have hf':en.find? (fun e=>e.born == y.born)=some y:=by rw [←Array.find?_toList];exact hf
 have hgi:(getObj b).run P w=.ok (.mapIter (some bm) ck seen ck) w:=by simp [getObj,Sem.run,p3]
 have hgm:=getObj_map (P:=P) q2
 refine Gives.pure hI (x:=.tuple #[y.key,y.val]) (v:=.tuple [.v e.1,e.2]) ?_ ⟨_,rfl,_,_,rfl,g4,_,_,rfl,g5,rfl⟩ h
 simp only [Instr.entry,Sem.run_bind,hgi,Result.andThen_ok,g1,hgm,bne_self_eq_false,Bool.false_eq_true,if_false,hf',Sem.run_pure]
theorem aop_sound (hI:Inv K w H) {md:Nat→Mode} {env:Env} {o:Oper} {ρ:Operand→Value} (hρ:∀ x,Rep K w (aeval env x) (ρ x)) (h:aop P md env H Kn o):Gives P K w H Kn (execOp ρ o):=by
 obtain ⟨dst,op,ty,pos,after,guard⟩:=o
 unfold aop at h
 have opt:∀ x:Option Operand,RepO K w (x.map (aeval env)) (x.map ρ):=fun x=>by cases x with | none=>trivial | some x=>exact hρ x
 simp only at h
 split at h
 ·exact ⟨_,_,w,K,H,.inl rfl,.refl hI,hρ _,h⟩
 ·exact ⟨_,_,w,K,H,.inl rfl,.refl hI,hρ _,h⟩
 ·rename_i c a b
  split at h
  ·rename_i t ht
   have hc:=hρ c
   rw [ht] at hc
   refine ⟨if t then ρ a else ρ b,_,w,K,H,.inl ?_,.refl hI,?_,h⟩
   ·simp only [execOp];rw [show ρ c=.bool t from hc];rfl
   ·cases t <;> exact hρ _
  ·exact h.elim
 ·exact aAlloc_sound hI h
 ·exact aBox_sound hI (hρ _) h
 ·rename_i t parts
  have:(parts.map fun (i,x)=>(i,ρ x)).toList=parts.toList.map fun (i,x)=>(i,ρ x):=by simp
  exact aBuild_sound hI (by rw [this];exact repP_map hρ _) h
 ·rename_i t n parts
  have:(parts.map fun (i,x)=>(i,ρ x)).toList=parts.toList.map fun (i,x)=>(i,ρ x):=by simp
  exact aBuildSlice_sound hI (by rw [this];exact repP_map hρ _) h
 ·exact aLoad_sound hI (hρ _) h
 ·exact aStore_sound hI (hρ _) (hρ _) h
 ·rename_i x
  have hx:=hρ x
  split at h
  ·rename_i i n hi
   rw [hi] at hx
   obtain ⟨b,hb,hv⟩:=hx
   refine ⟨.pointer (some ⟨b,n,none⟩),.ref i n,w,K,H,.inl ?_,.refl hI,⟨b,hb,rfl⟩,h⟩
   simp only [execOp,hv];rfl
  ·rename_i cs hi
   rw [hi] at hx
   obtain ⟨b,n,hv,hc⟩:=hx
   refine ⟨.pointer (some ⟨b,n,none⟩),.iptr cs,w,K,H,.inl ?_,.refl hI,⟨b,n,rfl,hc⟩,h⟩
   simp only [execOp,hv];rfl
  ·rename_i i1 i2 i3 i4 i5 hi
   rw [hi] at hx
   obtain ⟨ad,cap,h1,h2,hv⟩:=hx
   refine ⟨_,.vref i1 i2 i3 i4 i5,w,K,H,.inl ?_,.refl hI,⟨ad,cap,h1,h2,rfl⟩,h⟩
   simp only [execOp,hv];rfl
  ·rename_i f cs hi
   rw [hi] at hx
   obtain ⟨vs,hv,hc⟩:=hx
   refine ⟨.func (.func f) #[] vs,.fn f cs,w,K,H,.inl ?_,.refl hI,⟨vs,rfl,hc⟩,h⟩
   simp only [execOp,hv];rfl
  ·exact h.elim
 ·exact aBin_sound hI (hρ _) (hρ _) h
 ·exact aUn_sound hI (hρ _) h
 ·exact aConv_sound hI (hρ _) h
 ·rename_i f first caps
  obtain ⟨rfl,h⟩:=h
  refine ⟨.func (.func f) #[] (caps.map ρ),.fn f (caps.toList.map (aeval env)),w,K,H,.inl (by simp [execOp,Instr.makeFunc]),.refl hI,⟨_,rfl,?_⟩,h⟩
  rw [Array.toList_map]
  exact RepL.map fun x _=>hρ x
 ·exact aMakeMap_sound hI h
 ·exact aMakeSlice_sound hI (hρ _) (hρ _) h
 ·split at h
  ·exact aCut_sound hI (hρ _) (opt _) (opt _) (opt _) h
  ·exact aSlice_sound hI (hρ _) (opt _) (opt _) (opt _) h
 ·exact aFieldAddr_sound hI (hρ _) h
 ·exact aField_sound hI (hρ _) h
 ·exact aIndexAddr_sound hI (hρ _) (hρ _) h
 ·exact aIndex_sound hI (hρ _) (hρ _) h
 ·exact aLookup_sound hI (hρ _) (hρ _) h
 ·exact aMapUpdate_sound hI (hρ _) (hρ _) (hρ _) h
 ·exact aMapUpdate_sound hI (hρ _) (hρ _) (hρ _) h
 ·exact aMapEntry_sound hI (hρ _) (hρ _) h
 ·exact aEntryStore_sound hI (hρ _) (hρ _) (hρ _) h
 ·rename_i t m
  split at h
  ·rename_i id hid
   obtain ⟨ht,h⟩:=h
   split at h
   ·rename_i es v hes
    have hm:=hρ m
    rw [hid] at hm
    exact aRange_sound hI hm ht hes h
   ·exact h.elim
  ·exact h.elim
 ·exact aEntry_sound hI (hρ _) h
 ·rename_i t n
  have ht:=hρ t
  split at h
  ·rename_i cs hcs
   rw [hcs] at ht
   obtain ⟨vs,hv,hr⟩:=ht
   unfold ret at h
   split at h
   ·rename_i a ha
    obtain ⟨y,hy,hry⟩:=hr.get ha
    have hy':vs[n]?=some y:=by simpa using hy
    exact Gives.pure hI (x:=y) (v:=a) (by simp [Instr.extract,hv,hy']) hry h
   ·exact h.elim
  ·exact h.elim
 ·rename_i args tys
  split at h
  ·rename_i x t hargs htys
   obtain rfl:args=#[x]:=by rw [←Array.toArray_toList (xs:=args),hargs]
   obtain rfl:tys=#[t]:=by rw [←Array.toArray_toList (xs:=tys),htys]
   have e:execOp ρ ⟨dst,.call ⟨.builtin .len,#[x],#[t]⟩,ty,pos,after,guard⟩=(do pure (.value (←Builtin.len_ #[t] ty #[ρ x])):Sem Next):=by simp [execOp,resolve,invoke,builtin]
   rw [e];exact aLen_sound hI (ty:=ty) (hρ x) h
  ·exact h.elim
 ·rename_i args tys
  split at h
  ·rename_i s x t u hargs htys
   obtain rfl:args=#[s,x]:=by rw [←Array.toArray_toList (xs:=args),hargs]
   obtain rfl:tys=#[t,u]:=by rw [←Array.toArray_toList (xs:=tys),htys]
   have e:execOp ρ ⟨dst,.call ⟨.builtin .append,#[s,x],#[t,u]⟩,ty,pos,after,guard⟩=(do pure (.value (←Builtin.append_ #[t,u] ty #[ρ s,ρ x])):Sem Next):=by simp [execOp,resolve,invoke,builtin]
   rw [e]
   split at h
   ·exact aAppendOwn_sound hI (ty:=ty) (hρ s) (hρ x) h
   ·exact aAppend_sound hI (ty:=ty) (hρ s) (hρ x) h
  ·exact h.elim
 ·rename_i args tys
  split at h
  ·rename_i m k more t ts hargs htys
   obtain rfl:args=(m::k::more).toArray:=by rw [←Array.toArray_toList (xs:=args),hargs]
   obtain rfl:tys=(t::ts).toArray:=by rw [←Array.toArray_toList (xs:=tys),htys]
   have:=aDelete_sound (u:=0) (ty:=ty) (tys:=ts) (more:=more.map ρ) hI (hρ m) (hρ k) h
   have e:execOp ρ ⟨dst,.call ⟨.builtin .delete,(m::k::more).toArray,(t::ts).toArray⟩,ty,pos,after,guard⟩=(do pure (.value (←Builtin.delete_ (t::ts).toArray ty (ρ m::ρ k::more.map ρ).toArray)):Sem Next):=by
    simp [execOp,resolve,invoke,builtin]
   rw [e];exact this
  ·exact h.elim
 ·rename_i args tys
  split at h
  ·rename_i s x t u hargs htys
   obtain rfl:args=#[s,x]:=by rw [←Array.toArray_toList (xs:=args),hargs]
   obtain rfl:tys=#[t,u]:=by rw [←Array.toArray_toList (xs:=tys),htys]
   have e:execOp ρ ⟨dst,.call ⟨.builtin .copy,#[s,x],#[t,u]⟩,ty,pos,after,guard⟩=(do pure (.value (←Builtin.copy_ #[t,u] ty #[ρ s,ρ x])):Sem Next):=by simp [execOp,resolve,invoke,builtin]
   rw [e]
   exact aCopy_sound hI (ty:=ty) (hρ s) (hρ x) h
  ·exact h.elim
 ·rename_i args tys
  split at h
  ·rename_i x y hargs
   obtain rfl:args=#[x,y]:=by rw [←Array.toArray_toList (xs:=args),hargs]
   have e:execOp ρ ⟨dst,.call ⟨.builtin .min,#[x,y],tys⟩,ty,pos,after,guard⟩=(do pure (.value (←Builtin.min_ tys ty #[ρ x,ρ y])):Sem Next):=by simp [execOp,resolve,invoke,builtin]
   rw [e]
   unfold aMin at h
   split at h
   ·rename_i k a k2 b h1 h2
    have hx:ρ x=.int k a:=by have:=hρ x;rw [h1] at this;exact this
    have hy:ρ y=.int k2 b:=by have:=hρ y;rw [h2] at this;exact this
    rw [hx,hy]
    exact Gives.pure hI (x:=.int k (if b < a then b else a)) (v:=.v (.int k (if b < a then b else a))) (by simp [Builtin.min_,Builtin.min2]) rfl h
   ·exact h.elim
  ·exact h.elim
 ·rename_i args tys
  split at h
  ·rename_i x y hargs
   obtain rfl:args=#[x,y]:=by rw [←Array.toArray_toList (xs:=args),hargs]
   have e:execOp ρ ⟨dst,.call ⟨.builtin .max,#[x,y],tys⟩,ty,pos,after,guard⟩=(do pure (.value (←Builtin.max_ tys ty #[ρ x,ρ y])):Sem Next):=by simp [execOp,resolve,invoke,builtin]
   rw [e]
   unfold aMax at h
   split at h
   ·rename_i k a k2 b h1 h2
    have hx:ρ x=.int k a:=by have:=hρ x;rw [h1] at this;exact this
    have hy:ρ y=.int k2 b:=by have:=hρ y;rw [h2] at this;exact this
    rw [hx,hy]
    exact Gives.pure hI (x:=.int k (if b > a then b else a)) (v:=.v (.int k (if b > a then b else a))) (by simp [Builtin.max_,Builtin.max2]) rfl h
   ·exact h.elim
  ·exact h.elim
 ·exact h.elim
end
end Go.Abs
