/- An abstract view of memory for proofs about Go code: values, when a value of the model is one of them, and that this outlasts whatever leaves the read cells alone. -/
import Derived.Still
import Derived.Below
import Derived.Laws.Sem
import Derived.Laws.CopyRow
import Derived.DeepKeys3
import Derived.Laws.Append
import Derived.Laws.Strings
import Derived.Laws.BytesArg
set_option linter.unusedVariables false
set_option linter.unusedSimpArgs false
namespace Go.Abs
open Go
inductive AV where
 | v (c:Value)
 | undef
 | agg (cs:List AV)
 | tuple (cs:List AV)
 | slice (rows:List (List AV)) (tok:Option Nat)
 | ms (id off len:Nat)
 | ref (id off:Nat)
 | iptr (cs:List AV)
 | map (id:Nat)
 | fn (f:FuncId) (caps:List AV)
 | vec (id len:Nat)
 | vref (id len esz row off:Nat)
 | view (id cur len:Nat)
 | yld (id:Nat)
 | stm (id j ver:Nat)
 deriving Inhabited
structure KW where
 io:Nat→Option Nat
 im:Nat→Nat→Prop
 th:Nat→Nat→Option (Option Addr × Nat)
 bn:Nat→Nat→Option (List Nat × Nat)
mutual
def Rep (K:KW) (w:World):AV→Value→Prop
 | .v c,x=>x=c
 | .undef,_=>True
 | .agg cs,x=>∃ vs,x=.agg vs∧RepL K w cs vs.toList
 | .tuple cs,x=>∃ vs,x=.tuple vs∧RepL K w cs vs.toList
 | .slice rows tok,x=>∃ a len cap,x=.slice a len cap∧len=rows.length∧len≤cap∧(a=none→cap=0) ∧
   (∀ t,tok=some t→K.th t rows.length=some (a,cap)) ∧
   (rows≠[]→∃ ad esz,a=some ad∧ad.spot=none∧RepRows K w esz ad.block ad.off rows)
 | .ms id off len,x=>∃ b cap,K.io id=some b∧x=.slice (some ⟨b,off,none⟩) len cap∧len≤cap
 | .ref id off,x=>∃ b,K.io id=some b∧x=.pointer (some ⟨b,off,none⟩)
 | .iptr cs,x=>∃ b off,x=.pointer (some ⟨b,off,none⟩)∧RepCells K w b off cs
 | .map id,x=>∃ b,K.io id=some b∧x=.map (some b)
 | .fn f caps,x=>∃ cs,x=.func (.func f) #[] cs∧RepL K w caps cs.toList
 | .vec id len,x=>∃ a cap,x=.slice a len cap∧len≤cap∧(a=none→cap=0)∧K.th id len=some (a,cap)∧∀ ad,a=some ad→ad.spot=none
 | .vref id len esz row off,x=>∃ ad cap,K.th id len=some (some ad,cap)∧ad.spot=none∧x=.pointer (some ⟨ad.block,ad.off+(row * esz+off),none⟩)
 | .view id cur len,x=>∃ a cap,x=.slice a len cap∧len≤cur∧cur≤cap∧(a=none→cap=0)∧K.th id cur=some (a,cap)∧∀ ad,a=some ad→ad.spot=none
 | .yld id,x=>∃ b,K.io id=some b∧x=.func (.yield b) #[] #[]
 | .stm id j ver,x=>∃ b B c n,K.io id=some b∧K.bn id ver=some (B,c)∧B[j]?=some n∧x=goInt n
def RepL (K:KW) (w:World):List AV→List Value→Prop
 | [],xs=>xs=[]
 | a::as,xs=>∃ y ys,xs=y::ys∧Rep K w a y∧RepL K w as ys
def RepCells (K:KW) (w:World) (b off:Nat):List AV→Prop
 | []=>True
 | a::as=>(∃ x,w.cell? ⟨b,off,none⟩=some x∧K.im b off∧x.oneCell'=true∧Rep K w a x)∧RepCells K w b (off+1) as
def RepRows (K:KW) (w:World) (esz b off:Nat):List (List AV)→Prop
 | []=>True
 | r::rs=>r.length=esz∧RepCells K w b off r∧RepRows K w esz b (off+esz) rs
end
structure KLe (K K':KW):Prop where
 io:∀ i b,K.io i=some b→K'.io i=some b
 im:∀ b o,K.im b o→K'.im b o
 th:∀ t e r,K.th t e=some r→K'.th t e=some r
 bn:∀ m e r,K.bn m e=some r→K'.bn m e=some r
theorem KLe.refl (K:KW):KLe K K:=⟨fun _ _ h=>h,fun _ _ h=>h,fun _ _ _ h=>h,fun _ _ _ h=>h⟩
theorem KLe.trans {A B C:KW} (h:KLe A B) (k:KLe B C):KLe A C:=⟨fun _ _ x=>k.io _ _ (h.io _ _ x),fun _ _ x=>k.im _ _ (h.im _ _ x),fun _ _ _ x=>k.th _ _ _ (h.th _ _ _ x),fun _ _ _ x=>k.bn _ _ _ (h.bn _ _ _ x)⟩
def Settled (K:KW) (w w':World):Prop:=∀ b o,K.im b o→w'.cell? ⟨b,o,none⟩=w.cell? ⟨b,o,none⟩
mutual
theorem Rep.mono {K K':KW} {w w':World} (h:KLe K K') (s:Settled K w w'):∀ (a:AV) (x:Value),Rep K w a x→Rep K' w' a x
 | .v _,_,hr=>hr
 | .undef,_,_=>trivial
 | .agg cs,_,⟨vs,e,r⟩=>⟨vs,e,RepL.mono h s cs _ r⟩
 | .tuple cs,_,⟨vs,e,r⟩=>⟨vs,e,RepL.mono h s cs _ r⟩
 | .slice rows _,_,⟨a,len,cap,e,h1,h2,h3,h4,h5⟩=>⟨a,len,cap,e,h1,h2,h3,fun t ht=>h.th _ _ _ (h4 t ht),
   fun hne=>let ⟨ad,esz,q1,q2,q3⟩:=h5 hne;⟨ad,esz,q1,q2,RepRows.mono h s esz _ _ rows q3⟩⟩
 | .ms _ _ _,_,⟨b,cap,h1,h2,h3⟩=>⟨b,cap,h.io _ _ h1,h2,h3⟩
 | .ref _ _,_,⟨b,h1,h2⟩=>⟨b,h.io _ _ h1,h2⟩
 | .iptr cs,_,⟨b,off,e,r⟩=>⟨b,off,e,RepCells.mono h s b off cs r⟩
 | .map _,_,⟨b,h1,h2⟩=>⟨b,h.io _ _ h1,h2⟩
 | .fn _ caps,_,⟨cs,e,r⟩=>⟨cs,e,RepL.mono h s caps _ r⟩
 | .vec _ _,_,⟨a,cap,e,h1,h2,h3,h4⟩=>⟨a,cap,e,h1,h2,h.th _ _ _ h3,h4⟩
 | .vref _ _ _ _ _,_,⟨ad,cap,h1,h2,h3⟩=>⟨ad,cap,h.th _ _ _ h1,h2,h3⟩
 | .view _ _ _,_,⟨a,cap,e,h0,h1,h2,h3,h4⟩=>⟨a,cap,e,h0,h1,h2,h.th _ _ _ h3,h4⟩
 | .yld _,_,⟨b,h1,h2⟩=>⟨b,h.io _ _ h1,h2⟩
 | .stm _ _ _,_,⟨b,B,c,n,h1,h2,h3⟩=>⟨b,B,c,n,h.io _ _ h1,h.bn _ _ _ h2,h3⟩
theorem RepL.mono {K K':KW} {w w':World} (h:KLe K K') (s:Settled K w w'):∀ (as:List AV) (xs:List Value),RepL K w as xs→RepL K' w' as xs
 | [],_,e=>e
 | a::as,_,⟨y,ys,e,r,rs⟩=>⟨y,ys,e,Rep.mono h s a y r,RepL.mono h s as ys rs⟩
theorem RepCells.mono {K K':KW} {w w':World} (h:KLe K K') (s:Settled K w w') (b:Nat):∀ (off:Nat) (as:List AV),RepCells K w b off as→RepCells K' w' b off as
 | _,[],_=>trivial
 | off,a::as,⟨⟨x,h1,h2,h0,h3⟩,r⟩=>⟨⟨x,by rw [s _ _ h2,h1],h.im _ _ h2,h0,Rep.mono h s a x h3⟩,RepCells.mono h s b (off+1) as r⟩
theorem RepRows.mono {K K':KW} {w w':World} (h:KLe K K') (s:Settled K w w') (esz b:Nat):∀ (off:Nat) (rs:List (List AV)),RepRows K w esz b off rs→RepRows K' w' esz b off rs
 | _,[],_=>trivial
 | off,r::rs,⟨h1,h2,h3⟩=>⟨h1,RepCells.mono h s b off r h2,RepRows.mono h s esz b (off+esz) rs h3⟩
end
mutual
def AV.low (n:Nat):AV→Prop
 | .v _=>True
 | .undef=>True
 | .agg cs=>lowL n cs
 | .tuple cs=>lowL n cs
 | .slice rows tok=>(∀ t,tok=some t→t < n)∧lowR n rows
 | .ms id _ _=>id < n
 | .ref id _=>id < n
 | .iptr cs=>lowL n cs
 | .map id=>id < n
 | .fn _ caps=>lowL n caps
 | .vec id _=>id < n
 | .vref id _ _ _ _=>id < n
 | .view id _ _=>id < n
 | .yld id=>id < n
 | .stm id _ _=>id < n
def lowL (n:Nat):List AV→Prop
 | []=>True
 | a::as=>a.low n∧lowL n as
def lowR (n:Nat):List (List AV)→Prop
 | []=>True
 | r::rs=>lowL n r∧lowR n rs
end
def KW.cut (K:KW) (n:Nat):KW:={ io:=fun i=>if i < n then K.io i else none,im:=K.im,th:=fun t e=>if t < n then K.th t e else none,bn:=fun m e=>if m < n then K.bn m e else none }
mutual
theorem Rep.cut {K:KW} {w:World} {n:Nat}:∀ (a:AV) (x:Value),a.low n→Rep K w a x→Rep (K.cut n) w a x
 | .v _,_,_,hr=>hr
 | .undef,_,_,_=>trivial
 | .agg cs,_,hb,⟨vs,e,r⟩=>⟨vs,e,RepL.cut cs _ hb r⟩
 | .tuple cs,_,hb,⟨vs,e,r⟩=>⟨vs,e,RepL.cut cs _ hb r⟩
 | .slice rows _,_,⟨hb1,hb2⟩,⟨a,len,cap,e,h1,h2,h3,h4,h5⟩=>⟨a,len,cap,e,h1,h2,h3,fun t ht=>by simp [KW.cut,hb1 t ht,h4 t ht],
   fun hne=>let ⟨ad,esz,q1,q2,q3⟩:=h5 hne;⟨ad,esz,q1,q2,RepRows.cut esz _ _ rows hb2 q3⟩⟩
 | .ms _ _ _,_,hb,⟨b,cap,h1,h2,h3⟩=>⟨b,cap,by simp only [AV.low] at hb;simp [KW.cut,hb,h1],h2,h3⟩
 | .ref _ _,_,hb,⟨b,h1,h2⟩=>⟨b,by simp only [AV.low] at hb;simp [KW.cut,hb,h1],h2⟩
 | .iptr cs,_,hb,⟨b,off,e,r⟩=>⟨b,off,e,RepCells.cut b off cs hb r⟩
 | .map _,_,hb,⟨b,h1,h2⟩=>⟨b,by simp only [AV.low] at hb;simp [KW.cut,hb,h1],h2⟩
 | .fn _ caps,_,hb,⟨cs,e,r⟩=>⟨cs,e,RepL.cut caps _ hb r⟩
 | .vec _ _,_,hb,⟨a,cap,e,h1,h2,h3,h4⟩=>⟨a,cap,e,h1,h2,by simp only [AV.low] at hb;simp [KW.cut,hb,h3],h4⟩
 | .vref _ _ _ _ _,_,hb,⟨ad,cap,h1,h2,h3⟩=>⟨ad,cap,by simp only [AV.low] at hb;simp [KW.cut,hb,h1],h2,h3⟩
 | .view _ _ _,_,hb,⟨a,cap,e,h0,h1,h2,h3,h4⟩=>⟨a,cap,e,h0,h1,h2,by simp only [AV.low] at hb;simp [KW.cut,hb,h3],h4⟩
 | .yld _,_,hb,⟨b,h1,h2⟩=>⟨b,by simp only [AV.low] at hb;simp [KW.cut,hb,h1],h2⟩
 | .stm _ _ _,_,hb,⟨b,B,c,n,h1,h2,h3⟩=>⟨b,B,c,n,by simp only [AV.low] at hb;simp [KW.cut,hb,h1],by simp only [AV.low] at hb;simp [KW.cut,hb,h2],h3⟩
theorem RepL.cut {K:KW} {w:World} {n:Nat}:∀ (as:List AV) (xs:List Value),lowL n as→RepL K w as xs→RepL (K.cut n) w as xs
 | [],_,_,e=>e
 | a::as,_,⟨h1,h2⟩,⟨y,ys,e,r,rs⟩=>⟨y,ys,e,Rep.cut a y h1 r,RepL.cut as ys h2 rs⟩
theorem RepCells.cut {K:KW} {w:World} {n:Nat} (b:Nat):∀ (off:Nat) (as:List AV),lowL n as→RepCells K w b off as→RepCells (K.cut n) w b off as
 | _,[],_,_=>trivial
 | off,a::as,⟨g1,g2⟩,⟨⟨x,h1,h2,h0,h3⟩,r⟩=>⟨⟨x,h1,h2,h0,Rep.cut a x g1 h3⟩,RepCells.cut b (off+1) as g2 r⟩
theorem RepRows.cut {K:KW} {w:World} {n:Nat} (esz b:Nat):∀ (off:Nat) (rs:List (List AV)),lowR n rs→RepRows K w esz b off rs→RepRows (K.cut n) w esz b off rs
 | _,[],_,_=>trivial
 | off,r::rs,⟨g1,g2⟩,⟨h1,h2,h3⟩=>⟨h1,RepCells.cut b off r g1 h2,RepRows.cut esz b (off+esz) rs g2 h3⟩
end
mutual
theorem Rep.low {K:KW} {w:World} {n:Nat} (hio:∀ i b,K.io i=some b→i < n) (hth:∀ t e r,K.th t e=some r→t < n):∀ (a:AV) (x:Value),Rep K w a x→a.low n
 | .v _,_,_=>trivial
 | .undef,_,_=>trivial
 | .agg cs,_,⟨vs,_,r⟩=>RepL.low hio hth cs _ r
 | .tuple cs,_,⟨vs,_,r⟩=>RepL.low hio hth cs _ r
 | .slice rows _,_,⟨a,len,cap,e,h1,h2,h3,h4,h5⟩=>⟨fun t ht=>hth _ _ _ (h4 t ht),by
   cases rows with
   | nil=>trivial
   | cons r rs=>obtain ⟨ad,esz,_,_,q3⟩:=h5 (by simp);exact RepRows.low hio hth esz _ _ _ q3⟩
 | .ms _ _ _,_,⟨b,cap,h1,h2,h3⟩=>hio _ _ h1
 | .ref _ _,_,⟨b,h1,h2⟩=>hio _ _ h1
 | .iptr cs,_,⟨b,off,e,r⟩=>RepCells.low hio hth b off cs r
 | .map _,_,⟨b,h1,h2⟩=>hio _ _ h1
 | .fn _ caps,_,⟨cs,e,r⟩=>RepL.low hio hth caps _ r
 | .vec _ _,_,⟨a,cap,e,h1,h2,h3,_⟩=>hth _ _ _ h3
 | .vref _ _ _ _ _,_,⟨ad,cap,h1,h2,h3⟩=>hth _ _ _ h1
 | .view _ _ _,_,⟨a,cap,e,h0,h1,h2,h3,_⟩=>hth _ _ _ h3
 | .yld _,_,⟨b,h1,h2⟩=>hio _ _ h1
 | .stm _ _ _,_,⟨b,B,c,n,h1,_⟩=>hio _ _ h1
theorem RepL.low {K:KW} {w:World} {n:Nat} (hio:∀ i b,K.io i=some b→i < n) (hth:∀ t e r,K.th t e=some r→t < n):∀ (as:List AV) (xs:List Value),RepL K w as xs→lowL n as
 | [],_,_=>trivial
 | a::as,_,⟨y,ys,e,r,rs⟩=>⟨Rep.low hio hth a y r,RepL.low hio hth as ys rs⟩
theorem RepCells.low {K:KW} {w:World} {n:Nat} (hio:∀ i b,K.io i=some b→i < n) (hth:∀ t e r,K.th t e=some r→t < n) (b:Nat):∀ (off:Nat) (as:List AV),RepCells K w b off as→lowL n as
 | _,[],_=>trivial
 | off,a::as,⟨⟨x,h1,h2,h0,h3⟩,r⟩=>⟨Rep.low hio hth a x h3,RepCells.low hio hth b (off+1) as r⟩
theorem RepRows.low {K:KW} {w:World} {n:Nat} (hio:∀ i b,K.io i=some b→i < n) (hth:∀ t e r,K.th t e=some r→t < n) (esz b:Nat):∀ (off:Nat) (rs:List (List AV)),RepRows K w esz b off rs→lowR n rs
 | _,[],_=>trivial
 | off,r::rs,⟨h1,h2,h3⟩=>⟨RepCells.low hio hth b off r h2,RepRows.low hio hth esz b (off+esz) rs h3⟩
end
inductive LSt where
 | ready
 | busy
 | exit (id:Nat)
 | ret
def okCode (n:Nat):Code→Bool
 | .region _ ops _=>ops.toList.all fun o=>match o.dst with | some d=>Nat.blt d n | none=>true
 | .seq a b=>okCode n a && okCode n b
 | .cond _ a b=>okCode n a && okCode n b
 | .block _ b=>okCode n b
 | .loop b=>okCode n b
 | .rangeFunc _ ps a b=>ps.toList.all (fun t=>Nat.blt t n) && (okCode n a && okCode n b)
 | _=>true
structure ALoop where
 env:Nat→AV
 ps:Array Tmp
 assign:Code
 body:Code
def LStOk:LSt→Loop→Prop
 | .ready,r=>r.state=.ready∧r.pending=none
 | .busy,r=>r.state=.busy
 | .exit id,r=>r.state=.done∧r.pending=some (.exit id)
 | .ret,r=>r.state=.done∧r.pending=some .ret
inductive ABlock where
 | cells (l:List AV)
 | amap (es:List (Value × AV)) (ver:Nat)
 | iter (m ver:Nat) (left:List Nat) (cur:Option Nat)
 | tok (len esz:Nat) (own:Option (List (List AV)))
 | hole
 | gone
 | lrec (r:ALoop) (st:LSt)
structure AHeap where
 get:Nat→Option ABlock
 next:Nat
def AHeap.alloc (H:AHeap) (b:ABlock):AHeap:=⟨fun i=>if i=H.next then some b else H.get i,H.next+1⟩
def AHeap.upd (H:AHeap) (j:Nat) (b:ABlock):AHeap:=⟨fun i=>if i=j then some b else H.get i,H.next⟩
def RepEs (K:KW) (w:World):List (Value × AV)→List MapEntry→Prop
 | [],xs=>xs=[]
 | (k,a)::es,xs=>∃ y ys,xs=y::ys∧y.key=k∧Rep K w a y.val∧RepEs K w es ys
theorem RepEs.mono {K K':KW} {w w':World} (h:KLe K K') (s:Settled K w w'):∀ es xs,RepEs K w es xs→RepEs K' w' es xs
 | [],_,e=>e
 | (k,a)::es,_,⟨y,ys,e,hk,r,rs⟩=>⟨y,ys,e,hk,r.mono h s,RepEs.mono h s es ys rs⟩
def leftOf (B seen:List Nat):List Nat:=(List.range B.length).filter fun j=>!seen.contains (B.getD j 0)
def OwnOk (K:KW) (w:World) (c:Array Value):Option (List (List AV))→Prop
 | none=>True
 | some l=>∃ pre rest,c.toList=pre++rest∧RepL K w l.flatten pre
def ownLo (n:Nat):Option (List (List AV))→Nat
 | none=>n
 | some _=>0
def offOk:Option (List (List AV))→Nat→Prop
 | none,_=>True
 | some _,n=>n=0
def ownNil:Option (List (List AV))→Prop
 | none=>True
 | some l=>l=[]
theorem offOk_zero:∀ x:Option (List (List AV)),offOk x 0
 | none=>trivial
 | some _=>rfl
theorem OwnOk.mono {K K':KW} {w w':World} (h:KLe K K') (s:Settled K w w') {c:Array Value}:∀ {x:Option (List (List AV))},OwnOk K w c x→OwnOk K' w' c x
 | none,_=>trivial
 | some l,⟨pre,rest,h1,h2⟩=>⟨pre,rest,h1,h2.mono h s⟩
def BlkOk (K:KW) (w:World) (i:Nat):ABlock→Prop
 | .cells l=>∃ b c e,K.io i=some b∧w.heap[b]?=some (.cells c e (0,0))∧∃ pre rest,c.toList=pre++rest∧RepL K w l pre
 | .amap es ver=>∃ b en ck,K.io i=some b∧w.heap[b]?=some (.map en ck)∧RepEs K w es en.toList∧K.bn i ver=some (en.toList.map (·.born),ck) ∧
   (en.toList.map (·.born)).Nodup∧(∀ n∈en.toList.map (·.born),n < ck)∧∀ v r,K.bn i v=some r→v≤ver
 | .iter m ver left cur=>∃ b bm since seen B,K.io i=some b∧K.io m=some bm∧w.heap[b]?=some (.mapIter (some bm) since seen since)∧K.bn m ver=some (B,since)∧left=leftOf B seen.toList∧∀ j,cur=some j→∃ s,seen.back?=some s∧B[j]?=some s
 | .tok len esz own=>∃ a cap,K.th i len=some (a,cap)∧len≤cap∧(a=none→cap=0∧ownNil own)∧∀ ad,a=some ad→ad.spot=none∧offOk own ad.off∧(∃ c e,w.heap[ad.block]?=some (.cells c e (0,0))∧((own=none∧cap=0)∨c.size=ad.off+cap * esz)∧OwnOk K w c own) ∧
   (∀ o,ownLo (ad.off+len * esz) own≤o→K.im ad.block o→own=none∧cap=0)∧∀ j,K.io j≠some ad.block
 | .hole=>K.io i=none
 | .gone=>True
 | .lrec r st=>∃ b q,K.io i=some b∧w.heap[b]?=some (.loop q)∧q.params=r.ps∧q.assign=r.assign∧q.body=r.body∧(r.ps.toList.all (fun t=>Nat.blt t q.tmps.size) && (okCode q.tmps.size r.assign && okCode q.tmps.size r.body))=true∧LStOk st q∧∀ t,Rep K w (r.env t) (q.tmps.getD t undef)
structure Inv (K:KW) (w:World) (H:AHeap):Prop where
 ioLt:∀ i b,K.io i=some b→i < H.next∧b < w.heap.size
 ioInj:∀ i j b,K.io i=some b→K.io j=some b→i=j
 ioIm:∀ i b o,K.io i=some b→¬ K.im b o
 imLt:∀ b o,K.im b o→b < w.heap.size
 thLt:∀ t e r,K.th t e=some r→t < H.next∧∀ ad,r.1=some ad→ad.block < w.heap.size
 thLe:∀ t l z x,H.get t=some (.tok l z x)→∀ e r,K.th t e=some r→e≤l
 bnLt:∀ m e r,K.bn m e=some r→m < H.next
 blk:∀ i B,H.get i=some B→i < H.next∧BlkOk K w i B
 tokInj:∀ i j l l' z z' x x' r r',H.get i=some (.tok l z x)→H.get j=some (.tok l' z' x')→K.th i l=some r→K.th j l'=some r'→∀ ad ad',r.1=some ad→r'.1=some ad'→ad.block=ad'.block→i=j
structure Step (K:KW) (w:World) (K':KW) (w':World):Prop where
 le:KLe K K'
 settled:Settled K w w'
 size:w.heap.size≤w'.heap.size
 shape:∀ b,b < w.heap.size→w'.shape? b=w.shape? b
 os:w'.os=w.os
 tape:w'.tape=w.tape
 output:w'.output=w.output
theorem Step.refl (K:KW) (w:World):Step K w K w:=⟨.refl K,fun _ _ _=>rfl,Nat.le_refl _,fun _ _=>rfl,rfl,rfl,rfl⟩
theorem Step.trans {A B C:KW} {u v w:World} (h:Step A u B v) (k:Step B v C w):Step A u C w :=
 ⟨h.le.trans k.le,fun b o hb=>(k.settled b o (h.le.im _ _ hb)).trans (h.settled b o hb),Nat.le_trans h.size k.size,
 fun b hb=>(k.shape b (Nat.lt_of_lt_of_le hb h.size)).trans (h.shape b hb),k.os.trans h.os,k.tape.trans h.tape,k.output.trans h.output⟩
def Touch (K:KW) (H:AHeap) (b:Nat):Prop:=∃ i B,H.get i=some B∧(K.io i=some b∨∃ len esz x ad cap,B=.tok len esz x∧K.th i len=some (some ad,cap)∧ad.block=b)
def Calm (w w':World):Prop:=∀ (b:Nat) (o:Obj),w.heap[b]?=some o→(o=.deferred (some [])→w'.heap[b]?=some o)∧∀ q,o=.loop q→∃ q',w'.heap[b]?=some (.loop q')
theorem Calm.refl (w:World):Calm w w:=fun _ _ h=>⟨fun _=>h,fun q e=>⟨q,by rw [h,e]⟩⟩
theorem Calm.trans {u v w:World} (h:Calm u v) (k:Calm v w):Calm u w:=fun b o hb =>
 ⟨fun e=>(k b o ((h b o hb).1 e)).1 e,fun q e=>let ⟨q',h'⟩:=(h b o hb).2 q e;(k b _ h').2 q' rfl⟩
theorem Calm.of_heap {w w':World} (h:w'.heap=w.heap):Calm w w':=fun b o hb=>⟨fun _=>by rw [h];exact hb,fun q e=>⟨q,by rw [h,hb,e]⟩⟩
theorem Calm.of_others {w w':World} (h:∀ k,k < w.heap.size→w'.heap[k]?=w.heap[k]?):Calm w w':=fun b o hb=>by
 have hlt:b < w.heap.size:=(Array.getElem?_eq_some_iff.1 hb).1
 exact ⟨fun _=>by rw [h b hlt];exact hb,fun q e=>⟨q,by rw [h b hlt,hb,e]⟩⟩
def CalmO (o o':Obj):Prop:=o≠.deferred (some [])∧∀ q,o=.loop q→∃ q',o'=.loop q'
structure Ext (K:KW) (w:World) (H:AHeap) (K':KW) (w':World) (H':AHeap):Prop where
 step:Step K w K' w'
 next:H.next≤H'.next
 calm:Calm w w'
 frame:∀ b,b < w.heap.size→¬ Touch K H b→w'.heap[b]?=w.heap[b]?
 within:∀ b,Touch K' H' b→Touch K H b∨w.heap.size≤b
 inv:Inv K' w' H'
theorem Ext.refl {K:KW} {w:World} {H:AHeap} (h:Inv K w H):Ext K w H K w H:=⟨.refl K w,Nat.le_refl _,.refl w,fun _ _ _=>rfl,fun _ h=>.inl h,h⟩
theorem Ext.trans {A B C:KW} {u v w:World} {H I J:AHeap} (h:Ext A u H B v I) (k:Ext B v I C w J):Ext A u H C w J:=by
 refine ⟨h.step.trans k.step,Nat.le_trans h.next k.next,h.calm.trans k.calm,fun b hb ht=>?_,fun b hb=>?_,k.inv⟩
 ·rw [k.frame b (Nat.lt_of_lt_of_le hb h.step.size) (fun hc=>?_),h.frame b hb ht]
  rcases h.within b hc with h1 | h1
  ·exact ht h1
  ·omega
 ·rcases k.within b hb with h1 | h1
  ·exact h.within b h1
  ·exact .inr (Nat.le_trans h.step.size h1)
structure SameMem (w w':World):Prop where
 heap:w'.heap=w.heap
 os:w'.os=w.os
 tape:w'.tape=w.tape
 output:w'.output=w.output
theorem SameMem.drew (w:World):SameMem w w.drew:=⟨rfl,rfl,rfl,rfl⟩
theorem SameMem.refl (w:World):SameMem w w:=⟨rfl,rfl,rfl,rfl⟩
theorem SameMem.cell {w w':World} (h:SameMem w w') (a:Addr):w'.cell? a=w.cell? a:=by simp only [World.cell?,h.heap]
theorem SameMem.shape {w w':World} (h:SameMem w w') (b:Nat):w'.shape? b=w.shape? b:=by simp only [World.shape?,h.heap]
theorem SameMem.step {w w':World} (h:SameMem w w') (K:KW):Step K w K w' :=
 ⟨.refl K,fun _ _ _=>h.cell _,by rw [h.heap];exact Nat.le_refl _,fun b _=>h.shape b,h.os,h.tape,h.output⟩
theorem BlkOk.same {K:KW} {w w':World} (h:SameMem w w') {i:Nat}:∀ {B:ABlock},BlkOk K w i B→BlkOk K w' i B
 | .cells l,⟨b,c,e,h1,h2,pre,rest,h3,h4⟩=>⟨b,c,e,h1,by rw [h.heap];exact h2,pre,rest,h3,RepL.mono (.refl K) (h.step K).settled _ _ h4⟩
 | .amap es ver,⟨b,en,ck,h1,h2,h3,h4⟩=>⟨b,en,ck,h1,by rw [h.heap];exact h2,RepEs.mono (.refl K) (h.step K).settled _ _ h3,h4⟩
 | .iter m ver left _,⟨b,bm,since,seen,B,h1,h2,h3,h4⟩=>⟨b,bm,since,seen,B,h1,h2,by rw [h.heap];exact h3,h4⟩
 | .tok len esz _,⟨a,cap,h1,h2,h3,h4⟩=>⟨a,cap,h1,h2,h3,fun ad had=>by
   obtain ⟨g1,g2,⟨c,e,g3,g4,g5⟩,g6⟩:=h4 ad had
   exact ⟨g1,g2,⟨c,e,by rw [h.heap];exact g3,g4,g5.mono (.refl K) (h.step K).settled⟩,g6⟩⟩
 | .hole,h=>h
 | .gone,_=>trivial
 | .lrec r st,⟨b,q,h1,h2,h3,h4,h5,h6,h7,h8⟩=>⟨b,q,h1,by rw [h.heap];exact h2,h3,h4,h5,h6,h7,fun t=>(h8 t).mono (.refl K) (h.step K).settled⟩
theorem Inv.same {K:KW} {w w':World} {H:AHeap} (h:SameMem w w') (hI:Inv K w H):Inv K w' H :=
 {ioLt:=fun i b hb=>by rw [h.heap];exact hI.ioLt i b hb,ioInj:=hI.ioInj,ioIm:=hI.ioIm,imLt:=fun b o hb=>by rw [h.heap];exact hI.imLt b o hb,
  thLt:=fun t e r hr=>by rw [h.heap];exact hI.thLt t e r hr,thLe:=hI.thLe,bnLt:=hI.bnLt,blk:=fun i B hB=>⟨(hI.blk i B hB).1,(hI.blk i B hB).2.same h⟩,tokInj:=hI.tokInj }
theorem Ext.same {K:KW} {w w':World} {H:AHeap} (h:SameMem w w') (hI:Inv K w H):Ext K w H K w' H :=
 ⟨h.step K,Nat.le_refl _,.of_heap h.heap,fun b _ _=>by rw [h.heap],fun _ h=>.inl h,hI.same h⟩
structure Chg (w w':World) (b:Nat) (o':Obj):Prop where
 size:w'.heap.size=w.heap.size
 at_:w'.heap[b]?=some o'
 others:∀ k,k≠b→w'.heap[k]?=w.heap[k]?
 os:w'.os=w.os
 tape:w'.tape=w.tape
 output:w'.output=w.output
theorem Chg.calm {w w':World} {b:Nat} {o o':Obj} (ho:w.heap[b]?=some o) (hc:Chg w w' b o') (h:CalmO o o'):Calm w w':=fun k q hk=>by
 by_cases e:k=b
 ·subst e
  rw [ho] at hk
  cases hk
  exact ⟨fun e=>absurd e h.1,fun q e=>let ⟨q',h'⟩:=h.2 q e;⟨q',by rw [hc.at_,h']⟩⟩
 ·rw [←hc.others k e] at hk
  exact ⟨fun _=>hk,fun q e=>⟨q,by rw [hk,e]⟩⟩
structure Add (w w':World) (o':Obj):Prop where
 size:w'.heap.size=w.heap.size+1
 at_:w'.heap[w.heap.size]?=some o'
 others:∀ k,k < w.heap.size→w'.heap[k]?=w.heap[k]?
 os:w'.os=w.os
 tape:w'.tape=w.tape
 output:w'.output=w.output
theorem Add.alloc (w:World) (o:Obj):Add w (w.alloc o) o :=
 ⟨by simp,by show (w.heap.push o)[w.heap.size]?=_;simp,fun k hk=>by show (w.heap.push o)[k]?=_;rw [Array.getElem?_push,if_neg (by omega)],rfl,rfl,rfl⟩
theorem Add.drew_alloc (w:World) (o:Obj):Add w (w.drew.alloc o) o:=by
 have:=Add.alloc w.drew o
 exact ⟨this.size,this.at_,this.others,rfl,rfl,rfl⟩
theorem cell_of_heap {w w':World} {b:Nat} (h:w'.heap[b]?=w.heap[b]?) (o:Nat) (s:Option Nat):w'.cell? ⟨b,o,s⟩=w.cell? ⟨b,o,s⟩:=by simp only [World.cell?,h]
theorem shape_of_heap {w w':World} {b:Nat} (h:w'.heap[b]?=w.heap[b]?):w'.shape? b=w.shape? b:=by simp only [World.shape?,h]
theorem BlkOk.keep {K K':KW} {w w':World} {i:Nat} (st:Step K w K' w') (hio:∀ b,K.io i=some b→w'.heap[b]?=w.heap[b]?)
  (hbn:∀ v r,K'.bn i v=some r→K.bn i v=some r) (hho:K.io i=none→K'.io i=none) :
  ∀ {B:ABlock},(∀ len esz x ad cap,B=.tok len esz x→K.th i len=some (some ad,cap)→w'.heap[ad.block]?=w.heap[ad.block]?∧(∀ o,ownLo (ad.off+len * esz) x≤o→K'.im ad.block o→K.im ad.block o)∧∀ j,K'.io j≠some ad.block) →
   BlkOk K w i B→BlkOk K' w' i B
 | .cells l,_,⟨b,c,e,h1,h2,pre,rest,h3,h4⟩=>⟨b,c,e,st.le.io _ _ h1,by rw [hio b h1];exact h2,pre,rest,h3,RepL.mono st.le st.settled _ _ h4⟩
 | .amap es ver,_,⟨b,en,ck,h1,h2,h3,h4,h5,h6,h7⟩=>⟨b,en,ck,st.le.io _ _ h1,by rw [hio b h1];exact h2,RepEs.mono st.le st.settled _ _ h3,st.le.bn _ _ _ h4,h5,h6,fun v r hv=>h7 v r (hbn v r hv)⟩
 | .iter m ver left _,_,⟨b,bm,since,seen,B,h1,h2,h3,h4,h5⟩=>⟨b,bm,since,seen,B,st.le.io _ _ h1,st.le.io _ _ h2,by rw [hio b h1];exact h3,st.le.bn _ _ _ h4,h5⟩
 | .tok len esz x,ht,⟨a,cap,h1,h2,h3,h4⟩=>⟨a,cap,st.le.th _ _ _ h1,h2,h3,fun ad had=>by
   subst had
   obtain ⟨g1,g2,g3⟩:=ht len esz x ad cap rfl h1
   obtain ⟨h5,h6,⟨c,e,h7,h8,h10⟩,h9,_⟩:=h4 ad rfl
   exact ⟨h5,h6,⟨c,e,by rw [g1];exact h7,h8,h10.mono st.le st.settled⟩,fun o ho hc=>h9 o ho (g2 o ho hc),g3⟩⟩
 | .hole,_,h=>hho h
 | .gone,_,_=>trivial
 | .lrec r s,_,⟨b,q,h1,h2,h3,h4,h5,h6,h7,h8⟩=>⟨b,q,st.le.io _ _ h1,by rw [hio b h1];exact h2,h3,h4,h5,h6,h7,fun t=>(h8 t).mono st.le st.settled⟩
theorem Ext.writeBn {K K':KW} {w w':World} {H:AHeap} {i b:Nat} {B0 B:ABlock} {o o':Obj} (hI:Inv K w H) (kio:K'.io=K.io) (kim:K'.im=K.im) (kth:K'.th=K.th) (kle:∀ m e r,K.bn m e=some r→K'.bn m e=some r)
  (kbn:∀ m e,m≠i→K'.bn m e=K.bn m e) (hio:K.io i=some b) (hget:H.get i=some B0)
  (ho:w.heap[b]?=some o) (hc:Chg w w' b o') (hsh:w'.shape? b=w.shape? b) (hB0:∀ l z x,B0≠.tok l z x) (hnt:∀ l z x,B≠.tok l z x) (hB:BlkOk K' w' i B) (hlp:CalmO o o':=by exact ⟨fun h=>(nomatch h),fun _ h=>(nomatch h)⟩):Ext K w H K' w' (H.upd i B):=by
 have hst:Step K w K' w':=by
  refine ⟨⟨fun _ _ h=>by rw [kio];exact h,fun _ _ h=>by rw [kim];exact h,fun _ _ _ h=>by rw [kth];exact h,kle⟩,fun b' o' hb'=>?_,by rw [hc.size];exact Nat.le_refl _,fun b' _=>?_,hc.os,hc.tape,hc.output⟩
  ·exact cell_of_heap (hc.others b' (fun e=>hI.ioIm i b o' hio (e ▸ hb'))) _ _
  ·by_cases e:b'=b
   ·subst e;exact hsh
   ·exact shape_of_heap (hc.others b' e)
 have hg:∀ j B',(H.upd i B).get j=some B'→(j=i∧B'=B)∨(j≠i∧H.get j=some B'):=by
  intro j B' h
  simp only [AHeap.upd] at h
  split at h
  ·exact .inl ⟨by assumption,by simpa using h.symm⟩
  ·exact .inr ⟨by assumption,h⟩
 refine ⟨hst,Nat.le_refl _,hc.calm ho hlp,fun b' _ hb'=>hc.others b' (fun e=>hb' ⟨i,B0,hget,.inl (e ▸ hio)⟩),fun b' hb'=>?_,?_⟩
 ·obtain ⟨j,B',h1,h2⟩:=hb'
  rw [kio,kth] at h2
  rcases hg j B' h1 with ⟨rfl,rfl⟩ | ⟨_,h3⟩
  ·rcases h2 with h2 | ⟨len,esz,_,ad,cap,h2,_⟩
   ·exact .inl ⟨j,B0,hget,.inl h2⟩
   ·exact absurd h2 (hnt _ _ _)
  ·exact .inl ⟨j,B',h3,h2⟩
 ·refine { ioLt:=fun j b' h=>by rw [kio] at h;exact ⟨(hI.ioLt j b' h).1,by rw [hc.size];exact (hI.ioLt j b' h).2⟩,ioInj:=by rw [kio];exact hI.ioInj,ioIm:=by rw [kio,kim];exact hI.ioIm,imLt:=fun b' o' h=>by rw [kim] at h;rw [hc.size];exact hI.imLt b' o' h,thLt:=fun t e r h=>by rw [kth] at h;exact ⟨(hI.thLt t e r h).1,by rw [hc.size];exact (hI.thLt t e r h).2⟩,thLe:=?_,bnLt:=?_,blk:=?_,tokInj:=?_ }
  ·intro t l z x h e r hr
   rw [kth] at hr
   rcases hg t _ h with ⟨rfl,h3⟩ | ⟨_,h3⟩
   ·exact absurd h3.symm (hnt _ _ _)
   ·exact hI.thLe t l z x h3 e r hr
  ·intro m e r h
   by_cases hm:m=i
   ·subst hm;exact (hI.blk _ _ hget).1
   ·rw [kbn m e hm] at h;exact hI.bnLt m e r h
  ·intro j B' h
   rcases hg j B' h with ⟨rfl,rfl⟩ | ⟨hji,h3⟩
   ·exact ⟨(hI.blk _ _ hget).1,hB⟩
   ·refine ⟨(hI.blk j B' h3).1,(hI.blk j B' h3).2.keep hst (fun b' hb'=>hc.others b' (fun e=>hji (hI.ioInj j i b (e ▸ hb') hio))) (fun v r h=>by rwa [kbn j v hji] at h) (fun h=>by rw [kio];exact h) ?_⟩
    intro len esz x ad cap hB' hth
    subst hB'
    obtain ⟨a',cap',q1,q2,q3,q4⟩:=(hI.blk j _ h3).2
    obtain ⟨rfl,rfl⟩:a'=some ad∧cap'=cap:=by rw [hth] at q1;simpa [eq_comm] using q1
    obtain ⟨_,_,_,_,q8⟩:=q4 ad rfl
    exact ⟨hc.others _ (fun e=>q8 i (e ▸ hio)),fun _ _ h=>by rw [kim] at h;exact h,by rw [kio];exact q8⟩
  ·intro j k l l' z z' x x' r r' h1 h2 h3 h4 h5
   rw [kth] at h3 h4
   rcases hg j _ h1 with ⟨_,h6⟩ | ⟨_,h6⟩
   ·exact absurd h6.symm (hnt _ _ _)
   rcases hg k _ h2 with ⟨_,h7⟩ | ⟨_,h7⟩
   ·exact absurd h7.symm (hnt _ _ _)
   exact hI.tokInj j k l l' z z' x x' r r' h6 h7 h3 h4 h5
theorem Ext.write {K:KW} {w w':World} {H:AHeap} {i b:Nat} {B0 B:ABlock} {o o':Obj} (hI:Inv K w H) (hio:K.io i=some b) (hget:H.get i=some B0)
  (ho:w.heap[b]?=some o) (hc:Chg w w' b o') (hsh:w'.shape? b=w.shape? b) (hB0:∀ l z x,B0≠.tok l z x) (hnt:∀ l z x,B≠.tok l z x) (hB:BlkOk K w' i B) (hlp:CalmO o o':=by exact ⟨fun h=>(nomatch h),fun _ h=>(nomatch h)⟩):Ext K w H K w' (H.upd i B) :=
 Ext.writeBn hI rfl rfl rfl (fun _ _ _ h=>h) (fun _ _ _=>rfl) hio hget ho hc hsh hB0 hnt hB hlp
def KW.addIo (K:KW) (i b:Nat):KW:={ K with io:=fun j=>if j=i then some b else K.io j }
def KW.addBn (K:KW) (i v:Nat) (r:List Nat × Nat):KW:={ K with bn:=fun j e=>if j=i∧e=v then some r else K.bn j e }
theorem Add.step {K K':KW} {w w':World} {o:Obj} {H:AHeap} (hI:Inv K w H) (h:Add w w' o) (hle:KLe K K'):Step K w K' w' :=
 ⟨hle,fun b o hb=>cell_of_heap (h.others b (hI.imLt b o hb)) _ _,by rw [h.size];omega,fun b hb=>shape_of_heap (h.others b hb),h.os,h.tape,h.output⟩
theorem Ext.new {K K':KW} {w w':World} {H:AHeap} {B:ABlock} {o:Obj} (hI:Inv K w H) (hA:Add w w' o)
  (hK:K'.io=fun j=>if j=H.next then some w.heap.size else K.io j) (him:K'.im=K.im) (hth:K'.th=K.th)
  (hbn:∀ m e,m≠H.next→K'.bn m e=K.bn m e)
  (hnt:∀ l z x,B≠.tok l z x) (hB:BlkOk K' w' H.next B):Ext K w H K' w' (H.alloc B):=by
 have hno:∀ b,K.io H.next≠some b:=fun b h=>by have:=(hI.ioLt _ _ h).1;omega
 have hle:KLe K K':=⟨fun i b h=>by
   rw [hK];simp only;rw [if_neg (fun (e:i=H.next)=>hno b (e ▸ h))];exact h,fun b o h=>by rw [him];exact h,fun t e r h=>by rw [hth];exact h,
  fun m e r h=>by rw [hbn m e (fun he=>by have:=hI.bnLt m e r h;omega)];exact h⟩
 have hst:=Add.step hI hA hle
 have hio':∀ j b,K'.io j=some b→(j=H.next∧b=w.heap.size)∨(j < H.next∧K.io j=some b):=by
  intro j b h
  rw [hK] at h
  simp only at h
  split at h
  ·exact .inl ⟨by assumption,by simpa using h.symm⟩
  ·exact .inr ⟨(hI.ioLt j b h).1,h⟩
 have hg:∀ j B',(H.alloc B).get j=some B'→(j=H.next∧B'=B)∨(j < H.next∧H.get j=some B'):=by
  intro j B' h
  simp only [AHeap.alloc] at h
  split at h
  ·exact .inl ⟨by assumption,by simpa using h.symm⟩
  ·exact .inr ⟨(hI.blk j B' h).1,h⟩
 refine ⟨hst,Nat.le_succ _,.of_others hA.others,fun b hb _=>hA.others b hb,fun b hb=>?_,?_⟩
 ·obtain ⟨j,B',h1,h2⟩:=hb
  rcases hg j B' h1 with ⟨rfl,rfl⟩ | ⟨hj,h3⟩
  ·rcases h2 with h2 | ⟨len,esz,_,ad,cap,h2,_⟩
   ·rcases hio' _ _ h2 with ⟨_,rfl⟩ | ⟨h4,_⟩
    ·exact .inr (Nat.le_refl _)
    ·omega
   ·exact absurd h2 (hnt _ _ _)
  ·refine .inl ⟨j,B',h3,?_⟩
   rcases h2 with h2 | ⟨len,esz,x,ad,cap,e1,e2,e3⟩
   ·rcases hio' _ _ h2 with ⟨rfl,_⟩ | ⟨_,h4⟩
    ·omega
    ·exact .inl h4
   ·rw [hth] at e2;exact .inr ⟨len,esz,x,ad,cap,e1,e2,e3⟩
 ·have hsz:=hA.size
  refine { ioLt:=?_,ioInj:=?_,ioIm:=?_,imLt:=?_,thLt:=?_,thLe:=?_,bnLt:=?_,blk:=?_,tokInj:=?_ }
  ·intro j b h
   show j < H.next+1∧_
   rcases hio' j b h with ⟨rfl,rfl⟩ | ⟨h1,h2⟩
   ·omega
   ·have:=(hI.ioLt j b h2).2;omega
  ·intro j k b h1 h2
   rcases hio' j b h1 with ⟨rfl,rfl⟩ | ⟨g1,g2⟩ <;> rcases hio' k _ h2 with ⟨rfl,h⟩ | ⟨g3,g4⟩
   ·rfl
   ·have:=(hI.ioLt _ _ g4).2;omega
   ·subst h;have:=(hI.ioLt _ _ g2).2;omega
   ·exact hI.ioInj j k b g2 g4
  ·intro j b o h1 h2
   rw [him] at h2
   rcases hio' j b h1 with ⟨rfl,rfl⟩ | ⟨g1,g2⟩
   ·have:=hI.imLt _ _ h2;omega
   ·exact hI.ioIm j b o g2 h2
  ·intro b o h;rw [him] at h;have:=hI.imLt b o h;omega
  ·intro t e r h
   show t < H.next+1∧_
   rw [hth] at h
   obtain ⟨g1,g2⟩:=hI.thLt t e r h
   exact ⟨by omega,fun ad had=>by have:=g2 ad had;omega⟩
  ·intro t l z x h e r hr
   rw [hth] at hr
   rcases hg t _ h with ⟨rfl,h3⟩ | ⟨_,h3⟩
   ·exact absurd h3.symm (hnt _ _ _)
   ·exact hI.thLe t l z x h3 e r hr
  ·intro m e r h
   show m < H.next+1
   by_cases hm:m=H.next
   ·omega
   ·rw [hbn m e hm] at h;have:=hI.bnLt m e r h;omega
  ·intro j B' h
   show j < H.next+1∧_
   rcases hg j B' h with ⟨rfl,rfl⟩ | ⟨hj,h3⟩
   ·exact ⟨by omega,hB⟩
   ·refine ⟨by omega,(hI.blk j B' h3).2.keep hst (fun b hb=>hA.others b (hI.ioLt j b hb).2) (fun v r hv=>by rwa [hbn j v (by omega)] at hv) (fun h=>by rw [hK];simp only;rw [if_neg (by omega)];exact h) ?_⟩
    intro len esz x ad cap e1 e2
    have hlt:=(hI.thLt _ _ _ e2).2 ad rfl
    subst e1
    obtain ⟨a',cap',q1,q2,q3,q4⟩:=(hI.blk j _ h3).2
    obtain ⟨rfl,rfl⟩:a'=some ad∧cap'=cap:=by rw [e2] at q1;simpa [eq_comm] using q1
    obtain ⟨_,_,_,_,q8⟩:=q4 ad rfl
    refine ⟨hA.others _ hlt,fun o _ h=>by rw [him] at h;exact h,fun k hk=>?_⟩
    rcases hio' k _ hk with ⟨rfl,g⟩ | ⟨_,g⟩
    ·omega
    ·exact q8 k g
  ·intro j k l l' z z' x x' r r' h1 h2 h3 h4 h5
   rw [hth] at h3 h4
   rcases hg j _ h1 with ⟨_,h6⟩ | ⟨_,h6⟩
   ·exact absurd h6.symm (hnt _ _ _)
   rcases hg k _ h2 with ⟨_,h7⟩ | ⟨_,h7⟩
   ·exact absurd h7.symm (hnt _ _ _)
   exact hI.tokInj j k l l' z z' x x' r r' h6 h7 h3 h4 h5
theorem Ext.fill {K K':KW} {w w':World} {H:AHeap} {i:Nat} {B:ABlock} {o:Obj} (hI:Inv K w H) (hA:Add w w' o) (hget:H.get i=some .hole)
  (hK:K'.io=fun j=>if j=i then some w.heap.size else K.io j) (him:K'.im=K.im) (hth:K'.th=K.th) (hbn:K'.bn=K.bn)
  (hnt:∀ l z x,B≠.tok l z x) (hB:BlkOk K' w' i B):Ext K w H K' w' (H.upd i B):=by
 have hil:=(hI.blk i _ hget).1
 have hno:K.io i=none:=(hI.blk i _ hget).2
 have hle:KLe K K':=⟨fun j b h=>by
   rw [hK];simp only;rw [if_neg (fun (e:j=i)=>by subst e;rw [hno] at h;cases h)];exact h,fun b o h=>by rw [him];exact h,fun t e r h=>by rw [hth];exact h,
  fun m e r h=>by rw [hbn];exact h⟩
 have hst:=Add.step hI hA hle
 have hio':∀ j b,K'.io j=some b→(j=i∧b=w.heap.size)∨(j≠i∧K.io j=some b):=by
  intro j b h
  rw [hK] at h
  simp only at h
  split at h
  ·exact .inl ⟨by assumption,by simpa using h.symm⟩
  ·exact .inr ⟨by assumption,h⟩
 have hg:∀ j B',(H.upd i B).get j=some B'→(j=i∧B'=B)∨(j≠i∧H.get j=some B'):=by
  intro j B' h
  simp only [AHeap.upd] at h
  split at h
  ·exact .inl ⟨by assumption,by simpa using h.symm⟩
  ·exact .inr ⟨by assumption,h⟩
 refine ⟨hst,Nat.le_refl _,.of_others hA.others,fun b hb _=>hA.others b hb,fun b hb=>?_,?_⟩
 ·obtain ⟨j,B',h1,h2⟩:=hb
  rcases hg j B' h1 with ⟨rfl,rfl⟩ | ⟨hj,h3⟩
  ·rcases h2 with h2 | ⟨len,esz,_,ad,cap,h2,_⟩
   ·rcases hio' _ _ h2 with ⟨_,rfl⟩ | ⟨h4,_⟩
    ·exact .inr (Nat.le_refl _)
    ·exact absurd rfl h4
   ·exact absurd h2 (hnt _ _ _)
  ·refine .inl ⟨j,B',h3,?_⟩
   rcases h2 with h2 | ⟨len,esz,x,ad,cap,e1,e2,e3⟩
   ·rcases hio' _ _ h2 with ⟨rfl,_⟩ | ⟨_,h4⟩
    ·exact absurd rfl hj
    ·exact .inl h4
   ·rw [hth] at e2;exact .inr ⟨len,esz,x,ad,cap,e1,e2,e3⟩
 ·have hsz:=hA.size
  refine { ioLt:=?_,ioInj:=?_,ioIm:=?_,imLt:=?_,thLt:=?_,thLe:=?_,bnLt:=?_,blk:=?_,tokInj:=?_ }
  ·intro j b h
   show j < H.next∧_
   rcases hio' j b h with ⟨rfl,rfl⟩ | ⟨h1,h2⟩
   ·omega
   ·have:=(hI.ioLt j b h2);omega
  ·intro j k b h1 h2
   rcases hio' j b h1 with ⟨rfl,rfl⟩ | ⟨g1,g2⟩ <;> rcases hio' k _ h2 with ⟨rfl,h⟩ | ⟨g3,g4⟩
   ·rfl
   ·have:=(hI.ioLt _ _ g4).2;omega
   ·subst h;have:=(hI.ioLt _ _ g2).2;omega
   ·exact hI.ioInj j k b g2 g4
  ·intro j b o h1 h2
   rw [him] at h2
   rcases hio' j b h1 with ⟨rfl,rfl⟩ | ⟨g1,g2⟩
   ·have:=hI.imLt _ _ h2;omega
   ·exact hI.ioIm j b o g2 h2
  ·intro b o h;rw [him] at h;have:=hI.imLt b o h;omega
  ·intro t e r h
   show t < H.next∧_
   rw [hth] at h
   obtain ⟨g1,g2⟩:=hI.thLt t e r h
   exact ⟨by omega,fun ad had=>by have:=g2 ad had;omega⟩
  ·intro t l z x h e r hr
   rw [hth] at hr
   rcases hg t _ h with ⟨rfl,h3⟩ | ⟨_,h3⟩
   ·exact absurd h3.symm (hnt _ _ _)
   ·exact hI.thLe t l z x h3 e r hr
  ·intro m e r h
   rw [hbn] at h;exact hI.bnLt m e r h
  ·intro j B' h
   show j < H.next∧_
   rcases hg j B' h with ⟨rfl,rfl⟩ | ⟨hj,h3⟩
   ·exact ⟨by omega,hB⟩
   ·refine ⟨(hI.blk j B' h3).1,(hI.blk j B' h3).2.keep hst (fun b hb=>hA.others b (hI.ioLt j b hb).2) (fun v r hv=>by rwa [hbn] at hv) (fun h=>by rw [hK];simp only;rw [if_neg hj];exact h) ?_⟩
    intro len esz x ad cap e1 e2
    have hlt:=(hI.thLt _ _ _ e2).2 ad rfl
    subst e1
    obtain ⟨a',cap',q1,q2,q3,q4⟩:=(hI.blk j _ h3).2
    obtain ⟨rfl,rfl⟩:a'=some ad∧cap'=cap:=by rw [e2] at q1;simpa [eq_comm] using q1
    obtain ⟨_,_,_,_,q8⟩:=q4 ad rfl
    refine ⟨hA.others _ hlt,fun o _ h=>by rw [him] at h;exact h,fun k hk=>?_⟩
    rcases hio' k _ hk with ⟨rfl,g⟩ | ⟨_,g⟩
    ·omega
    ·exact q8 k g
  ·intro j k l l' z z' x x' r r' h1 h2 h3 h4 h5
   rw [hth] at h3 h4
   rcases hg j _ h1 with ⟨_,h6⟩ | ⟨_,h6⟩
   ·exact absurd h6.symm (hnt _ _ _)
   rcases hg k _ h2 with ⟨_,h7⟩ | ⟨_,h7⟩
   ·exact absurd h7.symm (hnt _ _ _)
   exact hI.tokInj j k l l' z z' x x' r r' h6 h7 h3 h4 h5
theorem Ext.hole {K:KW} {w:World} {H:AHeap} (hI:Inv K w H):Ext K w H K w (H.alloc .hole):=by
 have hg:∀ j B',(H.alloc .hole).get j=some B'→(j=H.next∧B'=.hole)∨(j < H.next∧H.get j=some B'):=by
  intro j B' h
  simp only [AHeap.alloc] at h
  split at h
  ·exact .inl ⟨by assumption,by simpa using h.symm⟩
  ·exact .inr ⟨(hI.blk j B' h).1,h⟩
 have hno:K.io H.next=none:=by
  cases h:K.io H.next with
  | none=>rfl
  | some b=>have:=(hI.ioLt _ _ h).1;omega
 refine ⟨Step.refl K w,Nat.le_succ _,.refl w,fun _ _ _=>rfl,fun b hb=>?_,?_⟩
 ·obtain ⟨j,B',h1,h2⟩:=hb
  rcases hg j B' h1 with ⟨rfl,rfl⟩ | ⟨hj,h3⟩
  ·rcases h2 with h2 | ⟨len,esz,_,ad,cap,h2,_⟩
   ·rw [hno] at h2;cases h2
   ·cases h2
  ·exact .inl ⟨j,B',h3,h2⟩
 ·refine { ioLt:=fun j b h=>?_,ioInj:=hI.ioInj,ioIm:=hI.ioIm,imLt:=hI.imLt,thLt:=fun t e r h=>?_,thLe:=?_,bnLt:=fun m e r h=>?_,blk:=?_,tokInj:=?_ }
  ·show j < H.next+1∧_
   have:=hI.ioLt j b h;omega
  ·show t < H.next+1∧_
   obtain ⟨g1,g2⟩:=hI.thLt t e r h
   exact ⟨by omega,g2⟩
  ·intro t l z x h e r hr
   rcases hg t _ h with ⟨rfl,h3⟩ | ⟨_,h3⟩
   ·cases h3
   ·exact hI.thLe t l z x h3 e r hr
  ·show m < H.next+1
   have:=hI.bnLt m e r h;omega
  ·intro j B' h
   show j < H.next+1∧_
   rcases hg j B' h with ⟨rfl,rfl⟩ | ⟨hj,h3⟩
   ·exact ⟨by omega,hno⟩
   ·exact ⟨by omega,(hI.blk j B' h3).2⟩
  ·intro j k l l' z z' x x' r r' h1 h2 h3 h4 h5
   rcases hg j _ h1 with ⟨_,h6⟩ | ⟨_,h6⟩
   ·cases h6
   rcases hg k _ h2 with ⟨_,h7⟩ | ⟨_,h7⟩
   ·cases h7
   exact hI.tokInj j k l l' z z' x x' r r' h6 h7 h3 h4 h5
def KW.addTh (K:KW) (i len:Nat) (r:Option Addr × Nat):KW:={ K with th:=fun j e=>if j=i∧e=len then some r else K.th j e }
def KW.addIm (K:KW) (b lo hi:Nat):KW:={ K with im:=fun b' o=>K.im b' o∨(b'=b∧lo≤o∧o < hi) }
theorem Ext.newTok' {K:KW} {w w':World} {H:AHeap} {c:Array Value} {e:TypeId} {len cap esz hi:Nat} {own:Option (List (List AV))} (hI:Inv K w H) (hA:Add w w' (.cells c e (0,0)))
  (hc:c.size=cap * esz) (hlen:len≤cap) (hx:(own=none∧hi=len * esz)∨((∃ l,own=some l)∧hi=0))
  (hown:KLe K ((K.addIm w.heap.size 0 hi).addTh H.next len (some ⟨w.heap.size,0,none⟩,cap))→Settled K w w'→OwnOk ((K.addIm w.heap.size 0 hi).addTh H.next len (some ⟨w.heap.size,0,none⟩,cap)) w' c own) :
  Ext K w H ((K.addIm w.heap.size 0 hi).addTh H.next len (some ⟨w.heap.size,0,none⟩,cap)) w' (H.alloc (.tok len esz own)):=by
 have hle:KLe K ((K.addIm w.heap.size 0 hi).addTh H.next len (some ⟨w.heap.size,0,none⟩,cap)) :=
  ⟨fun _ _ h=>h,fun _ _ h=>.inl h,fun t f r h=>by
   simp only [KW.addTh,KW.addIm]
   rw [if_neg (fun he:t=H.next∧f=len=>by have:=(hI.thLt t f r h).1;omega)];exact h,fun _ _ _ h=>h⟩
 have hst:=Add.step hI hA hle
 have hth:∀ t f r,((K.addIm w.heap.size 0 hi).addTh H.next len (some ⟨w.heap.size,0,none⟩,cap)).th t f=some r →
   (t=H.next∧f=len∧r=(some ⟨w.heap.size,0,none⟩,cap))∨(t < H.next∧K.th t f=some r):=by
  intro t f r h
  simp only [KW.addTh,KW.addIm] at h
  split at h
  ·rename_i hh;exact .inl ⟨hh.1,hh.2,by simpa using h.symm⟩
  ·exact .inr ⟨(hI.thLt t f r h).1,h⟩
 have hg:∀ j B',(H.alloc (.tok len esz own)).get j=some B'→(j=H.next∧B'=.tok len esz own)∨(j < H.next∧H.get j=some B'):=by
  intro j B' h
  simp only [AHeap.alloc] at h
  split at h
  ·exact .inl ⟨by assumption,by simpa using h.symm⟩
  ·exact .inr ⟨(hI.blk j B' h).1,h⟩
 have hsz:=hA.size
 refine ⟨hst,Nat.le_succ _,.of_others hA.others,fun b hb _=>hA.others b hb,fun b hb=>?_,?_⟩
 ·obtain ⟨j,B',h1,h2⟩:=hb
  rcases hg j B' h1 with ⟨rfl,rfl⟩ | ⟨hj,h3⟩
  ·rcases h2 with h2 | ⟨len',esz',_,ad,cap',h2,h3,rfl⟩
   ·have:=(hI.ioLt _ _ h2).1;omega
   ·rcases hth _ _ _ h3 with ⟨_,_,h4⟩ | ⟨h4,_⟩
    ·simp only [Prod.mk.injEq,Option.some.injEq] at h4;rw [h4.1];exact .inr (Nat.le_refl _)
    ·omega
  ·refine .inl ⟨j,B',h3,?_⟩
   rcases h2 with h2 | ⟨len',esz',x,ad,cap',e1,e2,e3⟩
   ·exact .inl h2
   ·rcases hth _ _ _ e2 with ⟨h4,_⟩ | ⟨_,h4⟩
    ·omega
    ·exact .inr ⟨len',esz',x,ad,cap',e1,h4,e3⟩
 ·refine { ioLt:=?_,ioInj:=hI.ioInj,ioIm:=?_,imLt:=?_,thLt:=?_,thLe:=?_,bnLt:=?_,blk:=?_,tokInj:=?_ }
  ·intro j b h
   show j < H.next+1∧_
   have:=hI.ioLt j b h;omega
  ·intro j b o h1 h2
   rcases h2 with h2 | ⟨rfl,_⟩
   ·exact hI.ioIm j b o h1 h2
   ·have:=(hI.ioLt _ _ h1).2;omega
  ·intro b o h
   rcases h with h | ⟨rfl,_⟩
   ·have:=hI.imLt b o h;omega
   ·omega
  ·intro t f r h
   show t < H.next+1∧_
   rcases hth t f r h with ⟨rfl,_,rfl⟩ | ⟨_,h1⟩
   ·refine ⟨by omega,fun ad had=>?_⟩
    simp only [Option.some.injEq] at had
    rw [←had];simp only;omega
   ·obtain ⟨g1,g2⟩:=hI.thLt t f r h1
    exact ⟨by omega,fun ad had=>by have:=g2 ad had;omega⟩
  ·intro t l z x h f r hr
   rcases hg t _ h with ⟨rfl,h3⟩ | ⟨hj,h3⟩
   ·simp only [ABlock.tok.injEq] at h3
    rcases hth _ _ _ hr with ⟨_,rfl,_⟩ | ⟨h4,_⟩ <;> omega
   ·rcases hth _ _ _ hr with ⟨h4,_⟩ | ⟨_,h4⟩
    ·omega
    ·exact hI.thLe t l z x h3 f r h4
  ·intro m f r h
   show m < H.next+1
   have:=hI.bnLt m f r h;omega
  ·intro j B' h
   show j < H.next+1∧_
   rcases hg j B' h with ⟨rfl,rfl⟩ | ⟨hj,h3⟩
   ·refine ⟨by omega,some ⟨w.heap.size,0,none⟩,cap,by simp [KW.addTh],hlen,by simp,fun ad had=>?_⟩
    simp only [Option.some.injEq] at had
    subst had
    refine ⟨rfl,offOk_zero own,⟨c,e,hA.at_,.inr (by rw [hc];exact (Nat.zero_add _).symm),hown hle hst.settled⟩,?_,?_⟩
    ·rintro o ho (h | ⟨_,_,h⟩)
     ·have:=hI.imLt _ _ h;simp only at this;omega
     ·rcases hx with ⟨rfl,rfl⟩ | ⟨⟨l,rfl⟩,rfl⟩
      ·simp only [ownLo] at ho;omega
      ·omega
    ·intro k hk;have:=(hI.ioLt _ _ hk).2;simp only at this;omega
   ·refine ⟨by omega,(hI.blk j B' h3).2.keep hst (fun b hb=>hA.others b (hI.ioLt j b hb).2) (fun _ _ h=>h) (fun h=>h) ?_⟩
    intro len' esz' x ad cap' e1 e2
    have hlt:=(hI.thLt _ _ _ e2).2 ad rfl
    subst e1
    obtain ⟨a',cap'',q1,q2,q3,q4⟩:=(hI.blk j _ h3).2
    obtain ⟨rfl,rfl⟩:a'=some ad∧cap''=cap':=by rw [e2] at q1;simpa [eq_comm] using q1
    obtain ⟨_,_,_,_,q8⟩:=q4 ad rfl
    refine ⟨hA.others _ hlt,fun o _ h=>?_,q8⟩
    rcases h with h | ⟨h,_⟩
    ·exact h
    ·omega
  ·intro j k l l' z z' x x' r r' h1 h2 h3 h4 ad ad' had had' h5
   rcases hg j _ h1 with ⟨rfl,h6⟩ | ⟨g6,h6⟩ <;> rcases hg k _ h2 with ⟨hk,h7⟩ | ⟨g7,h7⟩
   ·exact hk.symm
   ·rcases hth _ _ _ h4 with ⟨h8,_⟩ | ⟨_,h8⟩
    ·omega
    rcases hth _ _ _ h3 with ⟨_,_,rfl⟩ | ⟨h9,_⟩
    ·have:=(hI.thLt _ _ _ h8).2 ad' had'
     simp only [Option.some.injEq] at had
     rw [←had] at h5;simp only at h5;omega
    ·omega
   ·subst hk
    rcases hth _ _ _ h3 with ⟨h8,_⟩ | ⟨_,h8⟩
    ·omega
    rcases hth _ _ _ h4 with ⟨_,_,rfl⟩ | ⟨h9,_⟩
    ·have:=(hI.thLt _ _ _ h8).2 ad had
     simp only [Option.some.injEq] at had'
     rw [←had'] at h5;simp only at h5;omega
    ·omega
   ·rcases hth _ _ _ h3 with ⟨h8,_⟩ | ⟨_,h8⟩
    ·omega
    rcases hth _ _ _ h4 with ⟨h9,_⟩ | ⟨_,h9⟩
    ·omega
    exact hI.tokInj j k l l' z z' x x' r r' h6 h7 h8 h9 ad ad' had had' h5
theorem Ext.newTok {K:KW} {w w':World} {H:AHeap} {c:Array Value} {e:TypeId} {len cap esz:Nat} (hI:Inv K w H) (hA:Add w w' (.cells c e (0,0)))
  (hc:c.size=cap * esz) (hlen:len≤cap) :
  Ext K w H ((K.addIm w.heap.size 0 (len * esz)).addTh H.next len (some ⟨w.heap.size,0,none⟩,cap)) w' (H.alloc (.tok len esz none)) :=
 Ext.newTok' hI hA hc hlen (.inl ⟨rfl,rfl⟩) fun _ _=>trivial
theorem Ext.nilTok {K:KW} {w:World} {H:AHeap} {esz:Nat} (own:Option (List (List AV))) (hown:ownNil own) (hI:Inv K w H):Ext K w H (K.addTh H.next 0 (none,0)) w (H.alloc (.tok 0 esz own)):=by
 have hth:∀ t f r,(K.addTh H.next 0 (none,0)).th t f=some r→(t=H.next∧f=0∧r=(none,0))∨(t < H.next∧K.th t f=some r):=by
  intro t f r h
  simp only [KW.addTh] at h
  split at h
  ·rename_i hh;exact .inl ⟨hh.1,hh.2,by simpa using h.symm⟩
  ·exact .inr ⟨(hI.thLt t f r h).1,h⟩
 have hle:KLe K (K.addTh H.next 0 (none,0)):=⟨fun _ _ h=>h,fun _ _ h=>h,fun t f r h=>by
   simp only [KW.addTh]
   rw [if_neg (fun he:t=H.next∧f=0=>by have:=(hI.thLt t f r h).1;omega)];exact h,fun _ _ _ h=>h⟩
 have hst:Step K w (K.addTh H.next 0 (none,0)) w:=⟨hle,fun _ _ _=>rfl,Nat.le_refl _,fun _ _=>rfl,rfl,rfl,rfl⟩
 have hg:∀ j B',(H.alloc (.tok 0 esz own)).get j=some B'→(j=H.next∧B'=.tok 0 esz own)∨(j < H.next∧H.get j=some B'):=by
  intro j B' h
  simp only [AHeap.alloc] at h
  split at h
  ·exact .inl ⟨by assumption,by simpa using h.symm⟩
  ·exact .inr ⟨(hI.blk j B' h).1,h⟩
 refine ⟨hst,Nat.le_succ _,.refl w,fun b hb _=>rfl,fun b hb=>?_,?_⟩
 ·obtain ⟨j,B',h1,h2⟩:=hb
  rcases hg j B' h1 with ⟨rfl,rfl⟩ | ⟨hj,h3⟩
  ·rcases h2 with h2 | ⟨len',esz',_,ad,cap',h2,h3,rfl⟩
   ·have:=(hI.ioLt _ _ h2).1;omega
   ·rcases hth _ _ _ h3 with ⟨_,_,h4⟩ | ⟨h4,_⟩
    ·simp at h4
    ·omega
  ·refine .inl ⟨j,B',h3,?_⟩
   rcases h2 with h2 | ⟨len',esz',x,ad,cap',e1,e2,e3⟩
   ·exact .inl h2
   ·rcases hth _ _ _ e2 with ⟨h4,_⟩ | ⟨_,h4⟩
    ·omega
    ·exact .inr ⟨len',esz',x,ad,cap',e1,h4,e3⟩
 ·refine { ioLt:=?_,ioInj:=hI.ioInj,ioIm:=hI.ioIm,imLt:=hI.imLt,thLt:=?_,thLe:=?_,bnLt:=?_,blk:=?_,tokInj:=?_ }
  ·intro j b h
   show j < H.next+1∧_
   have:=hI.ioLt j b h;omega
  ·intro t f r h
   show t < H.next+1∧_
   rcases hth t f r h with ⟨rfl,_,rfl⟩ | ⟨_,h1⟩
   ·exact ⟨by omega,fun ad had=>by simp at had⟩
   ·obtain ⟨g1,g2⟩:=hI.thLt t f r h1
    exact ⟨by omega,g2⟩
  ·intro t l z x h f r hr
   rcases hg t _ h with ⟨rfl,h3⟩ | ⟨hj,h3⟩
   ·simp only [ABlock.tok.injEq] at h3
    rcases hth _ _ _ hr with ⟨_,rfl,_⟩ | ⟨h4,_⟩ <;> omega
   ·rcases hth _ _ _ hr with ⟨h4,_⟩ | ⟨_,h4⟩
    ·omega
    ·exact hI.thLe t l z x h3 f r h4
  ·intro m f r h
   show m < H.next+1
   have:=hI.bnLt m f r h;omega
  ·intro j B' h
   show j < H.next+1∧_
   rcases hg j B' h with ⟨rfl,rfl⟩ | ⟨hj,h3⟩
   ·exact ⟨by omega,none,0,by simp [KW.addTh],Nat.le_refl _,fun _=>⟨rfl,hown⟩,fun ad had=>by simp at had⟩
   ·refine ⟨by omega,(hI.blk j B' h3).2.keep hst (fun b hb=>rfl) (fun _ _ h=>h) (fun h=>h) ?_⟩
    intro len' esz' x ad cap' e1 e2
    subst e1
    obtain ⟨a',cap'',q1,q2,q3,q4⟩:=(hI.blk j _ h3).2
    obtain ⟨rfl,rfl⟩:a'=some ad∧cap''=cap':=by rw [e2] at q1;simpa [eq_comm] using q1
    obtain ⟨_,_,_,_,q8⟩:=q4 ad rfl
    exact ⟨rfl,fun _ _ h=>h,q8⟩
  ·intro j k l l' z z' x x' r r' h1 h2 h3 h4 ad ad' had had' h5
   rcases hg j _ h1 with ⟨rfl,h6⟩ | ⟨g6,h6⟩ <;> rcases hg k _ h2 with ⟨hk,h7⟩ | ⟨g7,h7⟩
   ·exact hk.symm
   ·rcases hth _ _ _ h3 with ⟨_,_,rfl⟩ | ⟨h9,_⟩
    ·simp at had
    ·omega
   ·subst hk
    rcases hth _ _ _ h4 with ⟨_,_,rfl⟩ | ⟨h9,_⟩
    ·simp at had'
    ·omega
   ·rcases hth _ _ _ h3 with ⟨h8,_⟩ | ⟨_,h8⟩
    ·omega
    rcases hth _ _ _ h4 with ⟨h9,_⟩ | ⟨_,h9⟩
    ·omega
    exact hI.tokInj j k l l' z z' x x' r r' h6 h7 h8 h9 ad ad' had had' h5
theorem Ext.growTok {K:KW} {w w':World} {H:AHeap} {i len len' esz cap':Nat} {c:Array Value} {e:TypeId} {ad:Addr} (hI:Inv K w H) {x0 x':Option (List (List AV))} {hi':Nat} (hget:H.get i=some (.tok len esz x0))
  (hlt:len < len') (hcap:len'≤cap') (hc:c.size=ad.off+cap' * esz) (had:ad.spot=none) (hoff:offOk x' ad.off)
  (hx:(x0=none∧x'=none∧hi'=ad.off+len' * esz)∨((∃ l,x0=some l)∧(∃ l,x'=some l)∧hi'=0)) (hown:KLe K ((K.addIm ad.block 0 hi').addTh i len' (some ad,cap'))→Settled K w w'→OwnOk ((K.addIm ad.block 0 hi').addTh i len' (some ad,cap')) w' c x')
  (hw:(∃ c0 e0,K.th i len=some (some ad,cap')∧w.heap[ad.block]?=some (.cells c0 e0 (0,0))∧Chg w w' ad.block (.cells c e (0,0))∧w'.shape? ad.block=w.shape? ad.block∧∀ o,o < ad.off+len * esz→c[o]?=c0[o]?) ∨
   (ad.block=w.heap.size∧Add w w' (.cells c e (0,0)))) :
  Ext K w H ((K.addIm ad.block 0 hi').addTh i len' (some ad,cap')) w' (H.upd i (.tok len' esz x')):=by
 obtain ⟨hi,a0,cap0,q1,q2,q3,q4⟩:=hI.blk i _ hget
 have hnone:∀ r,K.th i len'≠some r:=fun r hr=>by have:=hI.thLe i len esz _ hget _ _ hr;omega
 have hle:KLe K ((K.addIm ad.block 0 hi').addTh i len' (some ad,cap')) :=
  ⟨fun _ _ h=>h,fun _ _ h=>.inl h,fun t f r h=>by
   simp only [KW.addTh,KW.addIm]
   rw [if_neg (fun he:t=i∧f=len'=>hnone r (he.1 ▸ he.2 ▸ h))];exact h,fun _ _ _ h=>h⟩
 have hth:∀ t f r,((K.addIm ad.block 0 hi').addTh i len' (some ad,cap')).th t f=some r→(t=i∧f=len'∧r=(some ad,cap'))∨K.th t f=some r:=by
  intro t f r h
  simp only [KW.addTh,KW.addIm] at h
  split at h
  ·rename_i hh;exact .inl ⟨hh.1,hh.2,by simpa using h.symm⟩
  ·exact .inr h
 have hg:∀ j B',(H.upd i (.tok len' esz x')).get j=some B'→(j=i∧B'=.tok len' esz x')∨(j≠i∧H.get j=some B'):=by
  intro j B' h
  simp only [AHeap.upd] at h
  split at h
  ·exact .inl ⟨by assumption,by simpa using h.symm⟩
  ·exact .inr ⟨by assumption,h⟩
 have hlo:ownLo (ad.off+len * esz) x0≤ownLo (ad.off+len' * esz) x':=by
  rcases hx with ⟨rfl,rfl,_⟩ | ⟨⟨l,rfl⟩,⟨l',rfl⟩,_⟩
  ·exact Nat.add_le_add_left (Nat.mul_le_mul_right _ (Nat.le_of_lt hlt)) _
  ·exact Nat.le_refl _
 have hlo0:ownLo (ad.off+len * esz) x0≤ad.off+len * esz:=by cases x0 <;> simp [ownLo]
 have hhi:hi'≤ownLo (ad.off+len' * esz) x':=by
  rcases hx with ⟨rfl,rfl,h⟩ | ⟨_,_,h⟩ <;> simp [h,ownLo]
 have hcom:w.heap.size≤w'.heap.size∧ad.block < w'.heap.size∧(∀ k,k < w.heap.size→(∀ ad0,a0=some ad0→k≠ad0.block)→w'.heap[k]?=w.heap[k]?)∧w'.heap[ad.block]?=some (.cells c e (0,0)) ∧
   (∀ b o,K.im b o→w'.cell? ⟨b,o,none⟩=w.cell? ⟨b,o,none⟩)∧(∀ b,b < w.heap.size→w'.shape? b=w.shape? b)∧(w'.os=w.os∧w'.tape=w.tape∧w'.output=w.output) ∧
   (a0=some ad∨ad.block=w.heap.size)∧(∀ j,K.io j≠some ad.block)∧(∀ o,ownLo (ad.off+len' * esz) x'≤o→¬ K.im ad.block o):=by
  rcases hw with ⟨c1,e1,h1,h2,h3,h4,h5⟩ | ⟨h1,h2⟩
  ·obtain ⟨rfl,rfl⟩:a0=some ad∧cap0=cap':=by rw [h1] at q1;simpa [eq_comm] using q1
   obtain ⟨_,_,⟨c0,e0,q5,q6,_⟩,q7,q8⟩:=q4 ad rfl
   obtain ⟨rfl,rfl⟩:c1=c0∧e1=e0:=by rw [q5] at h2;simpa [eq_comm] using h2
   have hb:ad.block < w.heap.size:=(hI.thLt _ _ _ q1).2 ad rfl
   refine ⟨by rw [h3.size];exact Nat.le_refl _,by rw [h3.size];exact hb,fun k _ hk=>h3.others k (hk ad rfl),h3.at_,fun b o hb'=>?_,fun b _=>?_,⟨h3.os,h3.tape,h3.output⟩,.inl rfl,q8,
    fun o ho him=>by have:=(q7 o (Nat.le_trans hlo ho) him).2;omega⟩
   ·by_cases he:b=ad.block
    ·subst he
     have:o < ad.off+len * esz:=by
      rcases Nat.lt_or_ge o (ad.off+len * esz) with h | h
      ·exact h
      ·have:=(q7 o (Nat.le_trans hlo0 h) hb').2;omega
     simp only [World.cell?,h3.at_,q5]
     simpa using h5 o this
    ·exact cell_of_heap (h3.others b he) _ _
   ·by_cases he:b=ad.block
    ·subst he;exact h4
    ·exact shape_of_heap (h3.others b he)
  ·refine ⟨by rw [h2.size];omega,by rw [h2.size];omega,fun k hk _=>h2.others k hk,by rw [h1];exact h2.at_,fun b o hb=>cell_of_heap (h2.others b (hI.imLt b o hb)) _ _,
    fun b hb=>shape_of_heap (h2.others b hb),⟨h2.os,h2.tape,h2.output⟩,.inr h1,fun j hj=>?_,fun o _ hb=>?_⟩
   ·have:=(hI.ioLt _ _ hj).2;omega
   ·have:=hI.imLt _ _ hb;omega
 obtain ⟨k1,k2,k3,k4,k5,k6,⟨k7,k8,k9⟩,k10,k11,k12⟩:=hcom
 have hst:Step K w ((K.addIm ad.block 0 hi').addTh i len' (some ad,cap')) w':=⟨hle,k5,k1,k6,k7,k8,k9⟩
 have hcalm:Calm w w':=by
  rcases hw with ⟨c1,e1,_,h2,h3,_⟩ | ⟨_,h2⟩
  ·exact h3.calm h2 ⟨fun h=>(nomatch h),fun _ h=>(nomatch h)⟩
  ·exact .of_others h2.others
 refine ⟨hst,Nat.le_refl _,hcalm,fun b hb hnt=>?_,fun b hb=>?_,?_⟩
 ·refine k3 b hb (fun ad0 h0 he=>hnt ⟨i,_,hget,.inr ⟨len,esz,_,ad0,cap0,rfl,by rw [q1,h0],he.symm⟩⟩)
 ·obtain ⟨j,B',h1,h2⟩:=hb
  rcases hg j B' h1 with ⟨rfl,rfl⟩ | ⟨hj,h3⟩
  ·rcases h2 with h2 | ⟨len2,esz2,_,ad2,cap2,h2,h3,rfl⟩
   ·exact .inl ⟨j,_,hget,.inl h2⟩
   ·obtain ⟨rfl,rfl,rfl⟩:len'=len2∧esz=esz2∧_:=by simpa using h2
    rcases hth _ _ _ h3 with ⟨_,_,h4⟩ | h4
    ·simp only [Prod.mk.injEq,Option.some.injEq] at h4
     rw [h4.1]
     rcases k10 with h | h
     ·exact .inl ⟨j,_,hget,.inr ⟨len,esz,_,ad,cap0,rfl,by rw [q1,h],rfl⟩⟩
     ·exact .inr (by omega)
    ·exact absurd h4 (hnone _)
  ·refine .inl ⟨j,B',h3,?_⟩
   rcases h2 with h2 | ⟨len2,esz2,x2,ad2,cap2,e1,e2,e3⟩
   ·exact .inl h2
   ·rcases hth _ _ _ e2 with ⟨h4,_⟩ | h4
    ·exact absurd h4 hj
    ·exact .inr ⟨len2,esz2,x2,ad2,cap2,e1,h4,e3⟩
 ·refine { ioLt:=?_,ioInj:=hI.ioInj,ioIm:=?_,imLt:=?_,thLt:=?_,thLe:=?_,bnLt:=hI.bnLt,blk:=?_,tokInj:=?_ }
  ·intro j b h
   have:=hI.ioLt j b h
   exact ⟨this.1,by omega⟩
  ·intro j b o h1 h2
   rcases h2 with h2 | ⟨rfl,_⟩
   ·exact hI.ioIm j b o h1 h2
   ·exact k11 j h1
  ·intro b o h
   rcases h with h | ⟨rfl,_⟩
   ·have:=hI.imLt b o h;omega
   ·exact k2
  ·intro t f r h
   rcases hth t f r h with ⟨rfl,_,rfl⟩ | h1
   ·refine ⟨hi,fun ad' had'=>?_⟩
    simp only [Option.some.injEq] at had'
    rw [←had'];exact k2
   ·obtain ⟨g1,g2⟩:=hI.thLt t f r h1
    exact ⟨g1,fun ad had=>by have:=g2 ad had;omega⟩
  ·intro t l z x h f r hr
   rcases hg t _ h with ⟨rfl,h3⟩ | ⟨hj,h3⟩
   ·simp only [ABlock.tok.injEq] at h3
    rcases hth _ _ _ hr with ⟨_,rfl,_⟩ | h4
    ·omega
    ·have:=hI.thLe t len esz _ hget f r h4;omega
   ·rcases hth _ _ _ hr with ⟨h4,_⟩ | h4
    ·exact absurd h4 hj
    ·exact hI.thLe t l z x h3 f r h4
  ·intro j B' h
   rcases hg j B' h with ⟨rfl,rfl⟩ | ⟨hj,h3⟩
   ·refine ⟨hi,some ad,cap',by simp [KW.addTh],hcap,by simp,fun ad' had'=>?_⟩
    simp only [Option.some.injEq] at had'
    subst had'
    refine ⟨had,hoff,⟨c,e,k4,.inr hc,hown hst.le hst.settled⟩,?_,k11⟩
    rintro o ho (h | ⟨_,_,h⟩)
    ·exact (k12 o ho h).elim
    ·omega
   ·refine ⟨(hI.blk j B' h3).1,(hI.blk j B' h3).2.keep hst (fun b hb=>?_) (fun _ _ h=>h) (fun h=>h) ?_⟩
    ·exact k3 b (hI.ioLt j b hb).2 (fun ad0 h0 he=>(q4 ad0 h0).2.2.2.2 j (he ▸ hb))
    ·intro len2 esz2 x2 ad2 cap2 e1 e2
     have hlt2:=(hI.thLt _ _ _ e2).2 ad2 rfl
     subst e1
     obtain ⟨a',cap'',p1,p2,p3,p4⟩:=(hI.blk j _ h3).2
     obtain ⟨rfl,rfl⟩:a'=some ad2∧cap''=cap2:=by rw [e2] at p1;simpa [eq_comm] using p1
     obtain ⟨_,_,_,_,p8⟩:=p4 ad2 rfl
     have hne:∀ ad0,a0=some ad0→ad2.block≠ad0.block:=fun ad0 h0 he=>hj (hI.tokInj j i _ _ _ _ _ _ _ _ h3 hget p1 q1 ad2 ad0 rfl h0 he)
     refine ⟨k3 _ hlt2 hne,fun o _ h=>?_,p8⟩
     rcases h with h | ⟨h,_⟩
     ·exact h
     ·rcases k10 with h' | h'
      ·exact absurd h (hne ad h')
      ·omega
  ·intro j k l l' z z' x x'' r r' h1 h2 h3 h4 ad1 ad2 had1 had2 h5
   have key:∀ t L Z X R ad3,H.get t=some (.tok L Z X)→K.th t L=some R→R.1=some ad3→t≠i→ad3.block≠ad.block:=by
    intro t L Z X R ad3 g1 g2 g0 g3 g4
    rcases k10 with h' | h'
    ·exact g3 (hI.tokInj t i _ _ _ _ _ _ _ _ g1 hget g2 q1 ad3 ad g0 h' g4)
    ·have:=(hI.thLt _ _ _ g2).2 ad3 g0;omega
   rcases hg j _ h1 with ⟨hj,h6⟩ | ⟨g6,h6⟩ <;> rcases hg k _ h2 with ⟨hk,h7⟩ | ⟨g7,h7⟩
   ·rw [hj,hk]
   ·subst hj
    obtain ⟨rfl,rfl,rfl⟩:l=len'∧z=esz∧x=x':=by simpa using h6
    rcases hth _ _ _ h3 with ⟨_,_,rfl⟩ | h9
    ·rcases hth _ _ _ h4 with ⟨h8,_⟩ | h8
     ·exact absurd h8 g7
     ·simp only [Option.some.injEq] at had1
      subst had1
      exact absurd h5.symm (key k _ _ _ _ _ h7 h8 had2 g7)
    ·exact absurd h9 (hnone _)
   ·subst hk
    obtain ⟨rfl,rfl,rfl⟩:l'=len'∧z'=esz∧x''=x':=by simpa using h7
    rcases hth _ _ _ h4 with ⟨_,_,rfl⟩ | h9
    ·rcases hth _ _ _ h3 with ⟨h8,_⟩ | h8
     ·exact absurd h8 g6
     ·simp only [Option.some.injEq] at had2
      subst had2
      exact absurd h5 (key j _ _ _ _ _ h6 h8 had1 g6)
    ·exact absurd h9 (hnone _)
   ·rcases hth _ _ _ h3 with ⟨h8,_⟩ | h8
    ·exact absurd h8 g6
    rcases hth _ _ _ h4 with ⟨h9,_⟩ | h9
    ·exact absurd h9 g7
    exact hI.tokInj j k l l' z z' x x'' r r' h6 h7 h8 h9 ad1 ad2 had1 had2 h5
theorem Ext.vecWrite {K:KW} {w w':World} {H:AHeap} {i len esz cap:Nat} {l l':List (List AV)} {c c0:Array Value} {e e0:TypeId} {ad:Addr} (hI:Inv K w H) (hget:H.get i=some (.tok len esz (some l)))
  (hth:K.th i len=some (some ad,cap)) (ho:w.heap[ad.block]?=some (.cells c0 e0 (0,0))) (hc:Chg w w' ad.block (.cells c e (0,0))) (hsh:w'.shape? ad.block=w.shape? ad.block) (hsz:c.size=c0.size)
  (hB:OwnOk K w' c (some l')):Ext K w H K w' (H.upd i (.tok len esz (some l'))):=by
 obtain ⟨hi,a0,cap0,q1,q2,q3,q4⟩:=hI.blk i _ hget
 obtain ⟨rfl,rfl⟩:a0=some ad∧cap0=cap:=by rw [hth] at q1;simpa [eq_comm] using q1
 obtain ⟨p1,p2,⟨c1,e1,p3,p4,p5⟩,p6,p7⟩:=q4 ad rfl
 obtain ⟨rfl,rfl⟩:c1=c0∧e1=e0:=by rw [p3] at ho;simpa using ho
 have hst:Step K w K w':=by
  refine ⟨.refl K,fun b' o' hb'=>?_,by rw [hc.size];exact Nat.le_refl _,fun b' _=>?_,hc.os,hc.tape,hc.output⟩
  ·exact cell_of_heap (hc.others b' (fun e=>nomatch (p6 o' (Nat.zero_le _) (e ▸ hb')).1)) _ _
  ·by_cases e:b'=ad.block
   ·subst e;exact hsh
   ·exact shape_of_heap (hc.others b' e)
 have hg:∀ j B',(H.upd i (.tok len esz (some l'))).get j=some B'→(j=i∧B'=.tok len esz (some l'))∨(j≠i∧H.get j=some B'):=by
  intro j B' h
  simp only [AHeap.upd] at h
  split at h
  ·exact .inl ⟨by assumption,by simpa using h.symm⟩
  ·exact .inr ⟨by assumption,h⟩
 have hback:∀ j L Z X,(H.upd i (.tok len esz (some l'))).get j=some (.tok L Z X)→∃ X',H.get j=some (.tok L Z X'):=by
  intro j L Z X h
  rcases hg j _ h with ⟨rfl,h'⟩ | ⟨_,h'⟩
  ·cases h'
   exact ⟨_,hget⟩
  ·exact ⟨_,h'⟩
 refine ⟨hst,Nat.le_refl _,hc.calm ho ⟨fun h=>(nomatch h),fun _ h=>(nomatch h)⟩,fun b' _ hb'=>hc.others b' (fun e=>hb' ⟨i,_,hget,.inr ⟨len,esz,_,ad,cap0,rfl,hth,e.symm⟩⟩),fun b' hb'=>?_,?_⟩
 ·obtain ⟨j,B',h1,h2⟩:=hb'
  rcases hg j B' h1 with ⟨rfl,rfl⟩ | ⟨_,h3⟩
  ·refine .inl ⟨j,_,hget,?_⟩
   rcases h2 with h2 | ⟨len2,esz2,x2,ad2,cap2,h2,h3⟩
   ·exact .inl h2
   ·cases h2
    exact .inr ⟨_,_,_,ad2,cap2,rfl,h3⟩
  ·exact .inl ⟨j,B',h3,h2⟩
 ·refine { ioLt:=fun j b' h=>⟨(hI.ioLt j b' h).1,by rw [hc.size];exact (hI.ioLt j b' h).2⟩,ioInj:=hI.ioInj,ioIm:=hI.ioIm,imLt:=fun b' o' h=>by rw [hc.size];exact hI.imLt b' o' h,thLt:=fun t e r h=>⟨(hI.thLt t e r h).1,by rw [hc.size];exact (hI.thLt t e r h).2⟩,thLe:=?_,bnLt:=hI.bnLt,blk:=?_,tokInj:=?_ }
  ·intro t L Z X h e r hr
   obtain ⟨X',h'⟩:=hback t L Z X h
   exact hI.thLe t L Z X' h' e r hr
  ·intro j B' h
   rcases hg j B' h with ⟨rfl,rfl⟩ | ⟨hji,h3⟩
   ·refine ⟨hi,some ad,cap0,hth,q2,fun h=>by simp at h,fun ad' had'=>?_⟩
    simp only [Option.some.injEq] at had'
    subst had'
    exact ⟨p1,p2,⟨c,e,hc.at_,by rw [hsz];exact .inr (p4.resolve_left fun h=>nomatch h.1),hB⟩,fun o _ h=>(nomatch (p6 o (Nat.zero_le _) h).1),p7⟩
   ·refine ⟨(hI.blk j B' h3).1,(hI.blk j B' h3).2.keep hst (fun b' hb'=>hc.others b' (fun e=>p7 j (e ▸ hb'))) (fun _ _ h=>h) (fun h=>h) ?_⟩
    intro len2 esz2 x2 ad2 cap2 hB' hth2
    subst hB'
    obtain ⟨a',cap',r1,r2,r3,r4⟩:=(hI.blk j _ h3).2
    obtain ⟨rfl,rfl⟩:a'=some ad2∧cap'=cap2:=by rw [hth2] at r1;simpa [eq_comm] using r1
    obtain ⟨_,_,_,_,r8⟩:=r4 ad2 rfl
    exact ⟨hc.others _ (fun e=>hji (hI.tokInj j i _ _ _ _ _ _ _ _ h3 hget hth2 hth ad2 ad rfl rfl e)),fun _ _ h=>h,r8⟩
  ·intro j k L L' Z Z' X X' r r' h1 h2 h3 h4 h5
   obtain ⟨Y,h1'⟩:=hback j L Z X h1
   obtain ⟨Y',h2'⟩:=hback k L' Z' X' h2
   exact hI.tokInj j k L L' Z Z' Y Y' r r' h1' h2' h3 h4 h5
def KW.frz (K:KW) (a:Option Addr) (n:Nat):KW:=match a with | none=>K | some ad=>K.addIm ad.block 0 n
theorem Ext.freeze {K:KW} {w:World} {H:AHeap} {i len esz cap:Nat} {l:List (List AV)} {a:Option Addr} (hI:Inv K w H) (hget:H.get i=some (.tok len esz (some l))) (hth:K.th i len=some (a,cap)) :
  Ext K w H (K.frz a (len * esz)) w (H.upd i (.tok len esz none)):=by
 obtain ⟨hi,a0,cap0,q1,q2,q3,q4⟩:=hI.blk i _ hget
 obtain ⟨rfl,rfl⟩:a0=a∧cap0=cap:=by rw [hth] at q1;simpa [eq_comm] using q1
 generalize hK':K.frz a0 (len * esz)=K'
 have kio:K'.io=K.io:=by rw [←hK'];cases a0 <;> rfl
 have kth:K'.th=K.th:=by rw [←hK'];cases a0 <;> rfl
 have kbn:K'.bn=K.bn:=by rw [←hK'];cases a0 <;> rfl
 have kim:∀ b o,K'.im b o→K.im b o∨∃ ad,a0=some ad∧b=ad.block∧o < len * esz:=by
  intro b o h
  rw [←hK'] at h
  cases a0 with
  | none=>exact .inl h
  | some ad =>
   rcases h with h | ⟨h1,_,h2⟩
   ·exact .inl h
   ·exact .inr ⟨ad,rfl,h1,h2⟩
 have hle:KLe K K':=⟨fun _ _ h=>by rw [kio];exact h,fun b o h=>by rw [←hK'];cases a0 with | none=>exact h | some ad=>exact .inl h,fun _ _ _ h=>by rw [kth];exact h,fun _ _ _ h=>by rw [kbn];exact h⟩
 have hst:Step K w K' w:=⟨hle,fun _ _ _=>rfl,Nat.le_refl _,fun _ _=>rfl,rfl,rfl,rfl⟩
 have hg:∀ j B',(H.upd i (.tok len esz none)).get j=some B'→(j=i∧B'=.tok len esz none)∨(j≠i∧H.get j=some B'):=by
  intro j B' h
  simp only [AHeap.upd] at h
  split at h
  ·exact .inl ⟨by assumption,by simpa using h.symm⟩
  ·exact .inr ⟨by assumption,h⟩
 have hback:∀ j L Z X,(H.upd i (.tok len esz none)).get j=some (.tok L Z X)→∃ X',H.get j=some (.tok L Z X'):=by
  intro j L Z X h
  rcases hg j _ h with ⟨rfl,h'⟩ | ⟨_,h'⟩
  ·cases h'
   exact ⟨_,hget⟩
  ·exact ⟨_,h'⟩
 refine ⟨hst,Nat.le_refl _,.refl w,fun _ _ _=>rfl,fun b' hb'=>?_,?_⟩
 ·obtain ⟨j,B',h1,h2⟩:=hb'
  rw [kio,kth] at h2
  rcases hg j B' h1 with ⟨rfl,rfl⟩ | ⟨_,h3⟩
  ·refine .inl ⟨j,_,hget,?_⟩
   rcases h2 with h2 | ⟨len2,esz2,x2,ad2,cap2,h2,h3⟩
   ·exact .inl h2
   ·cases h2
    exact .inr ⟨_,_,_,ad2,cap2,rfl,h3⟩
  ·exact .inl ⟨j,B',h3,h2⟩
 ·refine { ioLt:=fun j b' h=>by rw [kio] at h;exact hI.ioLt j b' h,ioInj:=by rw [kio];exact hI.ioInj,ioIm:=?_,imLt:=?_,thLt:=by rw [kth];exact hI.thLt,thLe:=?_,bnLt:=by rw [kbn];exact hI.bnLt,blk:=?_,tokInj:=?_ }
  ·intro j b o h1 h2
   rw [kio] at h1
   rcases kim b o h2 with h2 | ⟨ad,rfl,rfl,_⟩
   ·exact hI.ioIm j b o h1 h2
   ·exact (q4 ad rfl).2.2.2.2 j h1
  ·intro b o h
   rcases kim b o h with h | ⟨ad,rfl,rfl,_⟩
   ·exact hI.imLt b o h
   ·exact (hI.thLt _ _ _ hth).2 ad rfl
  ·intro t L Z X h e r hr
   rw [kth] at hr
   obtain ⟨X',h'⟩:=hback t L Z X h
   exact hI.thLe t L Z X' h' e r hr
  ·intro j B' h
   rcases hg j B' h with ⟨rfl,rfl⟩ | ⟨hji,h3⟩
   ·refine ⟨hi,a0,cap0,by rw [kth];exact hth,q2,fun h=>⟨(q3 h).1,trivial⟩,fun ad' had'=>?_⟩
    subst had'
    obtain ⟨p1,p2,⟨c1,e1,p3,p4,p5⟩,p6,p7⟩:=q4 ad' rfl
    refine ⟨p1,trivial,⟨c1,e1,p3,.inr (p4.resolve_left fun h=>nomatch h.1),trivial⟩,fun o ho h=>?_,by rw [kio];exact p7⟩
    simp only [ownLo] at ho
    rcases kim _ _ h with h | ⟨ad,_,_,h⟩
    ·exact nomatch (p6 o (Nat.zero_le _) h).1
    ·omega
   ·refine ⟨(hI.blk j B' h3).1,(hI.blk j B' h3).2.keep hst (fun _ _=>rfl) (fun v r h=>by rwa [kbn] at h) (fun h=>by first | exact h | (rw [kio];exact h)) ?_⟩
    intro len2 esz2 x2 ad2 cap2 hB' hth2
    subst hB'
    obtain ⟨a',cap',r1,r2,r3,r4⟩:=(hI.blk j _ h3).2
    obtain ⟨rfl,rfl⟩:a'=some ad2∧cap'=cap2:=by rw [hth2] at r1;simpa [eq_comm] using r1
    obtain ⟨_,_,_,_,r8⟩:=r4 ad2 rfl
    refine ⟨rfl,fun o _ h=>?_,by rw [kio];exact r8⟩
    rcases kim _ _ h with h | ⟨ad,rfl,he,_⟩
    ·exact h
    ·exact absurd (hI.tokInj j i _ _ _ _ _ _ _ _ h3 hget hth2 hth ad2 ad rfl rfl he) hji
  ·intro j k L L' Z Z' X X' r r' h1 h2 h3 h4 h5
   rw [kth] at h3 h4
   obtain ⟨Y,h1'⟩:=hback j L Z X h1
   obtain ⟨Y',h2'⟩:=hback k L' Z' X' h2
   exact hI.tokInj j k L L' Z Z' Y Y' r r' h1' h2' h3 h4 h5
theorem Ext.cut {K:KW} {w:World} {H:AHeap} {i len esz cap l:Nat} {ad ad':Addr} (hI:Inv K w H) (hget:H.get i=some (.tok len esz none)) (hth:K.th i len=some (some ad,cap)) (hl:l≤len)
  (had':ad'.block=ad.block∧ad'.spot=none∧(cap - l=0∨ad'.off=ad.off+l * esz)) :
  Ext K w H (K.addTh H.next (len - l) (some ad',cap - l)) w ((H.upd i .gone).alloc (.tok (len - l) esz none)):=by
 obtain ⟨hi,a0,cap0,q1,q2,q3,q4⟩:=hI.blk i _ hget
 obtain ⟨rfl,rfl⟩:a0=some ad∧cap0=cap:=by rw [hth] at q1;simpa [eq_comm] using q1
 obtain ⟨p1,p2,⟨c1,e1,p3,p4,p5⟩,p6,p7⟩:=q4 ad rfl
 obtain ⟨hb',hs',ho'⟩:=had'
 have hmul:l * esz+(len - l) * esz=len * esz:=by rw [←Nat.add_mul];congr 1;omega
 have hmul2:l * esz+(cap0 - l) * esz=cap0 * esz:=by rw [←Nat.add_mul];congr 1;omega
 have hle:KLe K (K.addTh H.next (len - l) (some ad',cap0 - l)):=⟨fun _ _ h=>h,fun _ _ h=>h,fun t f r h=>by
   simp only [KW.addTh]
   rw [if_neg (fun he:t=H.next∧f=len - l=>by have:=(hI.thLt t f r h).1;omega)];exact h,fun _ _ _ h=>h⟩
 have hst:Step K w (K.addTh H.next (len - l) (some ad',cap0 - l)) w:=⟨hle,fun _ _ _=>rfl,Nat.le_refl _,fun _ _=>rfl,rfl,rfl,rfl⟩
 have hth':∀ t f r,(K.addTh H.next (len - l) (some ad',cap0 - l)).th t f=some r→(t=H.next∧f=len - l∧r=(some ad',cap0 - l))∨(t < H.next∧K.th t f=some r):=by
  intro t f r h
  simp only [KW.addTh] at h
  split at h
  ·rename_i hh;exact .inl ⟨hh.1,hh.2,by simpa using h.symm⟩
  ·exact .inr ⟨(hI.thLt t f r h).1,h⟩
 have hg:∀ j B',((H.upd i .gone).alloc (.tok (len - l) esz none)).get j=some B'→(j=H.next∧B'=.tok (len - l) esz none)∨(j=i∧B'=.gone)∨(j < H.next∧j≠i∧H.get j=some B'):=by
  intro j B' h
  change (if j=H.next then some (ABlock.tok (len - l) esz none) else if j=i then some ABlock.gone else H.get j)=some B' at h
  by_cases hj1:j=H.next
  ·rw [if_pos hj1] at h;exact .inl ⟨hj1,by simpa using h.symm⟩
  ·rw [if_neg hj1] at h
   by_cases hj2:j=i
   ·rw [if_pos hj2] at h;exact .inr (.inl ⟨hj2,by simpa using h.symm⟩)
   ·rw [if_neg hj2] at h;exact .inr (.inr ⟨(hI.blk j B' h).1,hj2,h⟩)
 refine ⟨hst,by show H.next≤H.next+1;omega,.refl w,fun _ _ _=>rfl,fun b hb=>?_,?_⟩
 ·obtain ⟨j,B',h1,h2⟩:=hb
  rcases hg j B' h1 with ⟨rfl,rfl⟩ | ⟨rfl,rfl⟩ | ⟨hj,hji,h3⟩
  ·rcases h2 with h2 | ⟨len2,esz2,x2,ad2,cap2,h2,h3,rfl⟩
   ·have:=(hI.ioLt _ _ h2).1;omega
   ·cases h2
    rcases hth' _ _ _ h3 with ⟨_,_,h4⟩ | ⟨h4,_⟩
    ·simp only [Prod.mk.injEq,Option.some.injEq] at h4
     rw [h4.1,hb']
     exact .inl ⟨i,_,hget,.inr ⟨len,esz,_,ad,cap0,rfl,hth,rfl⟩⟩
    ·omega
  ·rcases h2 with h2 | ⟨_,_,_,_,_,h2,_⟩
   ·exact .inl ⟨j,_,hget,.inl h2⟩
   ·cases h2
  ·refine .inl ⟨j,B',h3,?_⟩
   rcases h2 with h2 | ⟨len2,esz2,x2,ad2,cap2,e1,e2,e3⟩
   ·exact .inl h2
   ·rcases hth' _ _ _ e2 with ⟨h4,_⟩ | ⟨_,h4⟩
    ·omega
    ·exact .inr ⟨len2,esz2,x2,ad2,cap2,e1,h4,e3⟩
 ·refine { ioLt:=fun j b h=>⟨by have:=(hI.ioLt j b h).1;show j < H.next+1;omega,(hI.ioLt j b h).2⟩,ioInj:=hI.ioInj,ioIm:=hI.ioIm,imLt:=hI.imLt,thLt:=?_,thLe:=?_,bnLt:=fun m e r h=>by have:=hI.bnLt m e r h;show m < H.next+1;omega,blk:=?_,tokInj:=?_ }
  ·intro t f r h
   rcases hth' t f r h with ⟨rfl,_,rfl⟩ | ⟨h1,h2⟩
   ·refine ⟨by show H.next < H.next+1;omega,fun ad9 had9=>?_⟩
    simp only [Option.some.injEq] at had9
    rw [←had9,hb'];exact (hI.thLt _ _ _ hth).2 ad rfl
   ·exact ⟨by show t < H.next+1;omega,(hI.thLt t f r h2).2⟩
  ·intro t L Z X h f r hr
   rcases hg t _ h with ⟨rfl,h3⟩ | ⟨_,h3⟩ | ⟨hj,_,h3⟩
   ·simp only [ABlock.tok.injEq] at h3
    rcases hth' _ _ _ hr with ⟨_,rfl,_⟩ | ⟨h4,_⟩
    ·omega
    ·omega
   ·cases h3
   ·rcases hth' _ _ _ hr with ⟨h4,_⟩ | ⟨_,h4⟩
    ·omega
    ·exact hI.thLe t L Z X h3 f r h4
  ·intro j B' h
   show j < H.next+1∧_
   rcases hg j B' h with ⟨rfl,rfl⟩ | ⟨rfl,rfl⟩ | ⟨hj,_,h3⟩
   ·refine ⟨by omega,some ad',cap0 - l,by simp [KW.addTh],by omega,by simp,fun ad9 had9=>?_⟩
    simp only [Option.some.injEq] at had9
    subst had9
    refine ⟨hs',trivial,⟨c1,e1,by rw [hb'];exact p3,?_,trivial⟩,fun o ho h=>?_,by rw [hb'];exact p7⟩
    ·rcases ho' with ho' | ho'
     ·exact .inl ⟨rfl,ho'⟩
     ·rcases p4 with ⟨_,p4⟩ | p4
      ·exact .inl ⟨rfl,by omega⟩
      ·right;rw [ho'];omega
    ·refine ⟨rfl,?_⟩
     rcases ho' with ho' | ho'
     ·exact ho'
     ·rw [hb'] at h
      simp only [ownLo] at ho
      have:=(p6 o (by simp only [ownLo];omega) h).2
      omega
   ·exact ⟨by omega,trivial⟩
   ·refine ⟨by omega,(hI.blk j B' h3).2.keep hst (fun _ _=>rfl) (fun _ _ h=>h) (fun h=>h) ?_⟩
    intro len2 esz2 x2 ad2 cap2 hB' hth2
    subst hB'
    obtain ⟨a',cap',r1,r2,r3,r4⟩:=(hI.blk j _ h3).2
    obtain ⟨rfl,rfl⟩:a'=some ad2∧cap'=cap2:=by rw [hth2] at r1;simpa [eq_comm] using r1
    obtain ⟨_,_,_,_,r8⟩:=r4 ad2 rfl
    exact ⟨rfl,fun _ _ h=>h,r8⟩
  ·have key:∀ t L Z X R ad3,H.get t=some (.tok L Z X)→K.th t L=some R→R.1=some ad3→t≠i→ad3.block≠ad.block :=
    fun t L Z X R ad3 g1 g2 g0 g3 g4=>g3 (hI.tokInj t i _ _ _ _ _ _ _ _ g1 hget g2 hth ad3 ad g0 rfl g4)
   intro j k L L' Z Z' X X' r r' h1 h2 h3 h4 ad1 ad2 had1 had2 h5
   rcases hg j _ h1 with ⟨rfl,h6⟩ | ⟨_,h6⟩ | ⟨g6,g6',h6⟩
   ·rcases hg k _ h2 with ⟨hk,h7⟩ | ⟨_,h7⟩ | ⟨g7,g7',h7⟩
    ·exact hk.symm
    ·cases h7
    ·rcases hth' _ _ _ h3 with ⟨_,_,rfl⟩ | ⟨h9,_⟩
     ·rcases hth' _ _ _ h4 with ⟨h8,_⟩ | ⟨_,h8⟩
      ·omega
      ·simp only [Option.some.injEq] at had1
       subst had1
       exact absurd (h5.symm.trans hb') (key k _ _ _ _ _ h7 h8 had2 g7')
     ·omega
   ·cases h6
   ·rcases hth' _ _ _ h3 with ⟨h8,_⟩ | ⟨_,h8⟩
    ·omega
    rcases hg k _ h2 with ⟨rfl,h7⟩ | ⟨_,h7⟩ | ⟨g7,g7',h7⟩
    ·rcases hth' _ _ _ h4 with ⟨_,_,rfl⟩ | ⟨h9,_⟩
     ·simp only [Option.some.injEq] at had2
      subst had2
      exact absurd (h5.trans hb') (key j _ _ _ _ _ h6 h8 had1 g6')
     ·omega
    ·cases h7
    ·rcases hth' _ _ _ h4 with ⟨h9,_⟩ | ⟨_,h9⟩
     ·omega
     exact hI.tokInj j k L L' Z Z' X X' r r' h6 h7 h8 h9 ad1 ad2 had1 had2 h5
def Wk (a b:AV):Prop:=∀ K w x,Rep K w a x→Rep K w b x
def WkL:List AV→List AV→Prop
 | _,[]=>True
 | a::as,b::bs=>Wk a b∧WkL as bs
 | [],_::_=>False
theorem Wk.refl (a:AV):Wk a a:=fun _ _ _ h=>h
theorem Wk.trans {a b c:AV} (h:Wk a b) (k:Wk b c):Wk a c:=fun K w x r=>k K w x (h K w x r)
theorem Wk.undef (a:AV):Wk a .undef:=fun _ _ _ _=>trivial
theorem WkL.refl:∀ l,WkL l l
 | []=>trivial
 | _::l=>⟨.refl _,WkL.refl l⟩
theorem Wk.nilSlice:Wk (.v (.slice none 0 0)) (.slice [] none):=fun K w x h=>⟨none,0,0,h,rfl,Nat.le_refl _,fun _=>rfl,fun _ h=>by simp at h,fun h=>absurd rfl h⟩
theorem Wk.tok (rows:List (List AV)) (t:Option Nat):Wk (.slice rows t) (.slice rows none) :=
 fun K w x ⟨a,len,cap,e,h1,h2,h3,_,h5⟩=>⟨a,len,cap,e,h1,h2,h3,fun _ h=>by simp at h,h5⟩
def WkE:List AV→List AV→Prop
 | [],[]=>True
 | a::as,b::bs=>Wk a b∧WkE as bs
 | _,_=>False
theorem WkE.refl:∀ l,WkE l l
 | []=>trivial
 | _::l=>⟨.refl _,WkE.refl l⟩
theorem RepL.wkE {K:KW} {w:World}:∀ {as bs:List AV} {xs:List Value},WkE as bs→RepL K w as xs→RepL K w bs xs
 | [],[],_,_,h=>h
 | a::as,b::bs,_,⟨h1,h2⟩,⟨y,ys,e,r,rs⟩=>⟨y,ys,e,h1 K w y r,rs.wkE h2⟩
theorem RepCells.wkE {K:KW} {w:World} {b:Nat}:∀ {as bs:List AV} {off:Nat},WkE as bs→RepCells K w b off as→RepCells K w b off bs
 | [],[],_,_,h=>h
 | a::as,c::cs,_,⟨h1,h2⟩,⟨⟨x,e,m,o,r⟩,rs⟩=>⟨⟨x,e,m,o,h1 K w x r⟩,rs.wkE h2⟩
theorem WkE.length:∀ {as bs:List AV},WkE as bs→as.length=bs.length
 | [],[],_=>rfl
 | _::_,_::_,⟨_,h⟩=>by simp [WkE.length h]
theorem Wk.agg {as bs:List AV} (h:WkE as bs):Wk (.agg as) (.agg bs):=fun _ _ _ ⟨vs,e,r⟩=>⟨vs,e,r.wkE h⟩
theorem Wk.tuple {as bs:List AV} (h:WkE as bs):Wk (.tuple as) (.tuple bs):=fun _ _ _ ⟨vs,e,r⟩=>⟨vs,e,r.wkE h⟩
def WkR:List (List AV)→List (List AV)→Prop
 | [],[]=>True
 | a::as,b::bs=>WkE a b∧WkR as bs
 | _,_=>False
theorem WkR.refl:∀ l,WkR l l
 | []=>trivial
 | _::l=>⟨.refl _,WkR.refl l⟩
theorem WkR.length:∀ {as bs:List (List AV)},WkR as bs→as.length=bs.length
 | [],[],_=>rfl
 | _::_,_::_,⟨_,h⟩=>by simp [WkR.length h]
theorem RepRows.wkR {K:KW} {w:World} {esz b:Nat}:∀ {as bs:List (List AV)} {off:Nat},WkR as bs→RepRows K w esz b off as→RepRows K w esz b off bs
 | [],[],_,_,h=>h
 | a::as,c::cs,_,⟨h1,h2⟩,⟨e,r,rs⟩=>⟨by rw [←h1.length];exact e,r.wkE h1,rs.wkR h2⟩
theorem Wk.slice {as bs:List (List AV)} {t:Option Nat} (h:WkR as bs):Wk (.slice as t) (.slice bs none) :=
 fun K w x ⟨a,len,cap,e,h1,h2,h3,_,h5⟩=>⟨a,len,cap,e,by rw [←h.length];exact h1,h2,h3,fun _ h=>by simp at h,fun hn=>by
  obtain ⟨ad,esz,q1,q2,q3⟩:=h5 (fun e=>hn (by subst e;cases bs with | nil=>rfl | cons=>exact h.elim))
  exact ⟨ad,esz,q1,q2,q3.wkR h⟩⟩
theorem RepL.wkL {K:KW} {w:World}:∀ {as bs:List AV} {xs:List Value},WkL as bs→RepL K w as xs→∃ pre rest,xs=pre++rest∧RepL K w bs pre
 | _,[],xs,_,_=>⟨[],xs,rfl,rfl⟩
 | a::as,b::bs,_,⟨h1,h2⟩,⟨y,ys,e,r,rs⟩=>by
  obtain ⟨pre,rest,h3,h4⟩:=RepL.wkL h2 rs
  exact ⟨y::pre,rest,by rw [e,h3];rfl,y,pre,rfl,h1 K w y r,h4⟩
 | [],_::_,_,h,_=>h.elim
def lowEs (n:Nat):List (Value × AV)→Prop
 | []=>True
 | (_,a)::es=>a.low n∧lowEs n es
def WkEs:List (Value × AV)→List (Value × AV)→Prop
 | [],[]=>True
 | (k,a)::es,(k',b)::fs=>k=k'∧Wk a b∧WkEs es fs
 | _,_=>False
theorem WkEs.refl:∀ l,WkEs l l
 | []=>trivial
 | _::l=>⟨rfl,.refl _,WkEs.refl l⟩
theorem RepEs.wk {K:KW} {w:World}:∀ {es fs:List (Value × AV)} {xs:List MapEntry},WkEs es fs→RepEs K w es xs→RepEs K w fs xs
 | [],[],_,_,h=>h
 | (k,a)::es,(k',b)::fs,_,⟨h1,h2,h3⟩,⟨y,ys,e,hk,r,rs⟩=>⟨y,ys,e,by rw [hk,h1],h2 K w _ r,rs.wk h3⟩
theorem RepEs.cut {K:KW} {w:World} {n:Nat}:∀ {es:List (Value × AV)} {xs:List MapEntry},lowEs n es→RepEs K w es xs→RepEs (K.cut n) w es xs
 | [],_,_,h=>h
 | (k,a)::es,_,⟨h1,h2⟩,⟨y,ys,e,hk,r,rs⟩=>⟨y,ys,e,hk,r.cut _ _ h1,rs.cut h2⟩
theorem RepEs.low {K:KW} {w:World} {n:Nat} (hio:∀ i b,K.io i=some b→i < n) (hth:∀ t e r,K.th t e=some r→t < n):∀ (es:List (Value × AV)) (xs:List MapEntry),RepEs K w es xs→lowEs n es
 | [],_,_=>trivial
 | (k,a)::es,_,⟨y,ys,e,hk,r,rs⟩=>⟨r.low hio hth,rs.low hio hth es ys⟩
def lowO (n:Nat):Option (List (List AV))→Prop
 | none=>True
 | some l=>lowR n l
def WkO:Option (List (List AV))→Option (List (List AV))→Prop
 | none,none=>True
 | some x,some y=>WkR x y
 | _,_=>False
theorem WkO.refl:∀ x,WkO x x
 | none=>trivial
 | some x=>WkR.refl x
def ABlock.low (n:Nat):ABlock→Prop
 | .cells l=>lowL n l
 | .amap es _=>lowEs n es
 | .iter m _ _ _=>m < n
 | .tok _ _ x=>lowO n x
 | .hole=>True
 | .gone=>True
 | .lrec r _=>∀ t,(r.env t).low n
def WkB:ABlock→ABlock→Prop
 | .cells l,.cells l'=>WkL l l'
 | .amap es v,.amap es' v'=>v=v'∧WkEs es es'
 | .iter m v l c,.iter m' v' l' c'=>m=m'∧v=v'∧l=l'∧c=c'
 | .tok l z x,.tok l' z' x'=>l=l'∧z=z'∧WkO x x'
 | .hole,.hole=>True
 | .gone,.gone=>True
 | .lrec r s,.lrec r' s'=>r=r'∧s=s'
 | _,_=>False
theorem WkB.refl:∀ B,WkB B B
 | .cells l=>WkL.refl l
 | .amap _ _=>⟨rfl,.refl _⟩
 | .iter _ _ _ _=>⟨rfl,rfl,rfl,rfl⟩
 | .tok _ _ x=>⟨rfl,rfl,.refl x⟩
 | .hole=>trivial
 | .gone=>trivial
 | .lrec r s=>⟨rfl,rfl⟩
theorem WkE.append:∀ {as bs cs ds:List AV},WkE as bs→WkE cs ds→WkE (as++cs) (bs++ds)
 | [],[],_,_,_,h=>h
 | a::as,b::bs,_,_,⟨h1,h2⟩,h=>⟨h1,WkE.append h2 h⟩
theorem WkR.flatten:∀ {as bs:List (List AV)},WkR as bs→WkE as.flatten bs.flatten
 | [],[],_=>trivial
 | a::as,b::bs,⟨h1,h2⟩=>by simp only [List.flatten_cons];exact h1.append h2.flatten
theorem lowL_append' {n:Nat}:∀ {a b:List AV},lowL n (a++b)↔lowL n a∧lowL n b
 | [],b=>by simp [lowL]
 | r::a,b=>by simp [lowL,lowL_append' (a:=a),and_assoc]
theorem lowR_flatten {n:Nat}:∀ {l:List (List AV)},lowL n l.flatten↔lowR n l
 | []=>by simp [lowL,lowR]
 | r::l=>by simp [lowR,lowL_append',lowR_flatten (l:=l)]
theorem BlkOk.wk {K:KW} {w:World} {i:Nat}:∀ {A B:ABlock},WkB A B→BlkOk K w i A→BlkOk K w i B
 | .cells l,.cells l',h,⟨b,c,e,h1,h2,pre,rest,h3,h4⟩=>by
  obtain ⟨p,r,h5,h6⟩:=h4.wkL h
  exact ⟨b,c,e,h1,h2,p,r++rest,by rw [h3,h5,List.append_assoc],h6⟩
 | .amap es v,.amap es' v',h0,⟨b,en,ck,h1,h2,h3,h4⟩=>by
  obtain ⟨rfl,h⟩:=h0
  exact ⟨b,en,ck,h1,h2,h3.wk h,h4⟩
 | .iter m v l c,.iter m' v' l' c',h0,h=>by
  obtain ⟨rfl,rfl,rfl,rfl⟩:=h0
  exact h
 | .tok l z x,.tok l' z' x',h0,⟨a,cap,h1,h2,h3,h4⟩=>by
  obtain ⟨rfl,rfl,h⟩:=h0
  refine ⟨a,cap,h1,h2,fun e=>⟨(h3 e).1,?_⟩,fun ad had=>?_⟩
  ·have h5:=(h3 e).2
   cases x <;> cases x' <;> first | trivial | exact h.elim | skip
   rename_i x y
   cases x with
   | nil=>cases y with
    | nil=>rfl
    | cons=>exact h.elim
   | cons=>cases h5
  ·obtain ⟨g1,g2,⟨c,e,g3,g4,g5⟩,g6,g7⟩:=h4 ad had
   refine ⟨g1,by cases x <;> cases x' <;> first | exact h.elim | exact g2,⟨c,e,g3,by cases x <;> cases x' <;> first | exact h.elim | exact g4 | exact .inr (g4.resolve_left fun h=>nomatch h.1),?_⟩,?_,g7⟩
   ·cases x <;> cases x' <;> first | trivial | exact h.elim | skip
    obtain ⟨pre,rest,g5,g6⟩:=g5
    exact ⟨pre,rest,g5,g6.wkE (WkR.flatten h)⟩
   ·cases x <;> cases x' <;> first | exact h.elim | exact g6 | exact fun o _ h=>(nomatch (g6 o (Nat.zero_le _) h).1)
 | .hole,.hole,_,h=>h
 | .gone,.gone,_,_=>trivial
 | .lrec r s,.lrec r' s',h0,h=>by
  obtain ⟨rfl,rfl⟩:=h0
  exact h
 | .lrec _ _,.cells _,h,_ | .lrec _ _,.amap _ _,h,_ | .lrec _ _,.iter _ _ _ _,h,_ | .lrec _ _,.tok _ _ _,h,_ | .lrec _ _,.hole,h,_ | .lrec _ _,.gone,h,_
 | .cells _,.lrec _ _,h,_ | .amap _ _,.lrec _ _,h,_ | .iter _ _ _ _,.lrec _ _,h,_ | .tok _ _ _,.lrec _ _,h,_ | .hole,.lrec _ _,h,_ | .gone,.lrec _ _,h,_
 | .gone,.cells _,h,_ | .gone,.amap _ _,h,_ | .gone,.iter _ _ _ _,h,_ | .gone,.tok _ _ _,h,_ | .gone,.hole,h,_ | .cells _,.gone,h,_ | .amap _ _,.gone,h,_ | .iter _ _ _ _,.gone,h,_ | .tok _ _ _,.gone,h,_ | .hole,.gone,h,_
 | .cells _,.amap _ _,h,_ | .cells _,.iter _ _ _ _,h,_ | .cells _,.tok _ _ _,h,_ | .amap _ _,.cells _,h,_ | .amap _ _,.iter _ _ _ _,h,_ | .amap _ _,.tok _ _ _,h,_
 | .hole,.cells _,h,_ | .hole,.amap _ _,h,_ | .hole,.iter _ _ _ _,h,_ | .hole,.tok _ _ _,h,_ | .cells _,.hole,h,_ | .amap _ _,.hole,h,_ | .iter _ _ _ _,.hole,h,_ | .tok _ _ _,.hole,h,_
 | .iter _ _ _ _,.cells _,h,_ | .iter _ _ _ _,.amap _ _,h,_ | .iter _ _ _ _,.tok _ _ _,h,_ | .tok _ _ _,.cells _,h,_ | .tok _ _ _,.amap _ _,h,_ | .tok _ _ _,.iter _ _ _ _,h,_=>h.elim
theorem BlkOk.cut {K:KW} {w:World} {i n:Nat} (hi:i < n):∀ {B:ABlock},B.low n→BlkOk K w i B→BlkOk (K.cut n) w i B
 | .cells l,hl,⟨b,c,e,h1,h2,pre,rest,h3,h4⟩=>⟨b,c,e,by simp [KW.cut,hi,h1],h2,pre,rest,h3,h4.cut _ _ hl⟩
 | .amap es v,hl,⟨b,en,ck,h1,h2,h3,h4,h5,h6,h7⟩=>⟨b,en,ck,by simp [KW.cut,hi,h1],h2,h3.cut hl,by simp [KW.cut,hi,h4],h5,h6,fun v r hv=>h7 v r (by simpa [KW.cut,hi] using hv)⟩
 | .iter m v l _,hl,⟨b,bm,since,seen,B,h1,h2,h3,h4,h5⟩=>⟨b,bm,since,seen,B,by simp [KW.cut,hi,h1],by simp only [ABlock.low] at hl;simp [KW.cut,hl,h2],h3,by simp only [ABlock.low] at hl;simp [KW.cut,hl,h4],h5⟩
 | .tok len esz x,hl,⟨a,cap,h1,h2,h3,h4⟩=>⟨a,cap,by simp [KW.cut,hi,h1],h2,h3,fun ad had=>by
   obtain ⟨g1,g2,⟨c,e,g3,g6,g7⟩,g4,g5⟩:=h4 ad had
   refine ⟨g1,g2,⟨c,e,g3,g6,?_⟩,g4,fun j hj=>?_⟩
   ·cases x with
    | none=>trivial
    | some l =>
     obtain ⟨pre,rest,g8,g9⟩:=g7
     exact ⟨pre,rest,g8,g9.cut _ _ (lowR_flatten.2 hl)⟩
   simp only [KW.cut] at hj
   split at hj
   ·exact g5 j hj
   ·simp at hj⟩
 | .hole,_,h=>by show (if i < n then K.io i else none)=none;rw [if_pos hi];exact h
 | .gone,_,_=>trivial
 | .lrec r s,hl,⟨b,q,h1,h2,h3,h4,h5,h6,h7,h8⟩=>⟨b,q,by simp [KW.cut,hi,h1],h2,h3,h4,h5,h6,h7,fun t=>Rep.cut _ _ (hl t) (h8 t)⟩
theorem BlkOk.low {K:KW} {w:World} {i n:Nat} (hio:∀ i b,K.io i=some b→i < n) (hth:∀ t e r,K.th t e=some r→t < n):∀ {B:ABlock},BlkOk K w i B→B.low n
 | .cells l,⟨b,c,e,h1,h2,pre,rest,h3,h4⟩=>h4.low hio hth
 | .amap es v,⟨b,en,ck,h1,h2,h3,h4⟩=>h3.low hio hth
 | .iter m v l _,⟨b,bm,since,seen,B,h1,h2,h3,h4,h5⟩=>hio _ _ h2
 | .tok _ _ none,_=>trivial
 | .hole,_=>trivial
 | .gone,_=>trivial
 | .lrec r s,⟨b,q,h1,h2,h3,h4,h5,h6,h7,h8⟩=>fun t=>Rep.low hio hth _ _ (h8 t)
 | .tok len esz (some l),⟨a,cap,h1,h2,h3,h4⟩=>by
  cases a with
  | none=>obtain rfl:l=[]:=(h3 rfl).2;trivial
  | some ad =>
   obtain ⟨_,_,⟨c,e,_,_,pre,rest,_,g⟩,_⟩:=h4 ad rfl
   exact lowR_flatten.1 (g.low hio hth)
def AHeap.Closed (H:AHeap):Prop:=∀ i B,H.get i=some B→i < H.next∧B.low H.next
theorem Inv.closed {K:KW} {w:World} {H:AHeap} (h:Inv K w H):H.Closed:=fun i B hB =>
 ⟨(h.blk i B hB).1,(h.blk i B hB).2.low (fun i b hb=>(h.ioLt i b hb).1) (fun t e r hr=>(h.thLt t e r hr).1)⟩
structure Reset (H1 H2:AHeap):Prop where
 next:H2.next≤H1.next
 get:∀ i B,H2.get i=some B→i < H2.next∧B.low H2.next∧∃ A,H1.get i=some A∧WkB A B
theorem Inv.reset {K:KW} {w:World} {H1 H2:AHeap} (hI:Inv K w H1) (h:Reset H1 H2):Inv (K.cut H2.next) w H2:=by
 have hio:∀ i b,(K.cut H2.next).io i=some b→i < H2.next∧K.io i=some b:=by
  intro i b hb;simp only [KW.cut] at hb;split at hb
  ·exact ⟨by assumption,hb⟩
  ·simp at hb
 have hth:∀ t e r,(K.cut H2.next).th t e=some r→t < H2.next∧K.th t e=some r:=by
  intro i b r hb;simp only [KW.cut] at hb;split at hb
  ·exact ⟨by assumption,hb⟩
  ·simp at hb
 have hbn:∀ t e r,(K.cut H2.next).bn t e=some r→t < H2.next∧K.bn t e=some r:=by
  intro i b r hb;simp only [KW.cut] at hb;split at hb
  ·exact ⟨by assumption,hb⟩
  ·simp at hb
 have htk:∀ i l z x,H2.get i=some (.tok l z x)→∃ x',H1.get i=some (.tok l z x'):=by
  intro i l z x hB
  obtain ⟨_,_,A,h3,h4⟩:=h.get i _ hB
  cases A with
  | tok l' z' x' =>
   obtain ⟨rfl,rfl,_⟩:=h4
   exact ⟨_,h3⟩
  | _=>exact h4.elim
 exact {
     ioLt:=fun i b hb=>⟨(hio i b hb).1,(hI.ioLt i b (hio i b hb).2).2⟩,ioInj:=fun i j b h1 h2=>hI.ioInj i j b (hio _ _ h1).2 (hio _ _ h2).2,
     ioIm:=fun i b o h1 h2=>hI.ioIm i b o (hio _ _ h1).2 h2,imLt:=hI.imLt,thLt:=fun t e r hr=>⟨(hth t e r hr).1,(hI.thLt t e r (hth t e r hr).2).2⟩,
     thLe:=fun t l z x ht e r hr=>by obtain ⟨x',hx⟩:=htk t l z x ht;exact hI.thLe t l z x' hx e r (hth t e r hr).2,
     bnLt:=fun m e r hr=>(hbn m e r hr).1,
     blk:=fun i B hB=>by
      obtain ⟨h1,h2,A,h3,h4⟩:=h.get i B hB
      exact ⟨h1,(((hI.blk i A h3).2).wk h4).cut h1 h2⟩
     tokInj:=fun i j l l' z z' x x' r r' h1 h2 h3 h4=>by
      obtain ⟨y,hy⟩:=htk _ _ _ _ h1;obtain ⟨y',hy'⟩:=htk _ _ _ _ h2
      exact hI.tokInj i j l l' z z' y y' r r' hy hy' (hth _ _ _ h3).2 (hth _ _ _ h4).2 }
theorem Ext.reset {K K1:KW} {w w1:World} {H H1 H2:AHeap} (hI:Inv K w H) (hE:Ext K w H K1 w1 H1) (h:Reset H1 H2) (hn:H.next≤H2.next) :
  Ext K w H (K1.cut H2.next) w1 H2:=by
 refine ⟨⟨⟨fun i b hb=>?_,hE.step.le.im,fun t e r hr=>?_,fun t e r hr=>?_⟩,hE.step.settled,hE.step.size,hE.step.shape,hE.step.os,hE.step.tape,hE.step.output⟩,hn,hE.calm,hE.frame,fun b hb=>?_,hE.inv.reset h⟩
 ·have:=(hI.ioLt i b hb).1;simp only [KW.cut];rw [if_pos (by omega)];exact hE.step.le.io i b hb
 ·have:=(hI.thLt t e r hr).1;simp only [KW.cut];rw [if_pos (by omega)];exact hE.step.le.th t e r hr
 ·have:=(hI.bnLt t e r hr);simp only [KW.cut];rw [if_pos (by omega)];exact hE.step.le.bn t e r hr
 ·refine hE.within b ?_
  obtain ⟨i,B,h1,h2⟩:=hb
  obtain ⟨h3,h4,A,h5,h6⟩:=h.get i B h1
  refine ⟨i,A,h5,?_⟩
  rcases h2 with h2 | ⟨len,esz,x,ad,cap,rfl,h8,h9⟩
  ·left;simp only [KW.cut,h3,if_true] at h2;exact h2
  ·right
   cases A with
   | tok l' z' x' =>
    obtain ⟨rfl,rfl,_⟩:=h6
    exact ⟨_,_,_,ad,cap,rfl,by simpa [KW.cut,h3] using h8,h9⟩
   | _=>exact h6.elim
theorem Reset.refl {H:AHeap} (h:H.Closed):Reset H H:=⟨Nat.le_refl _,fun i B hB=>⟨(h i B hB).1,(h i B hB).2,B,hB,.refl B⟩⟩
def rdT (P:Program) (t:TypeId):Option (Option Nat) :=
 match P.underlying t,P.info? t with
 | some (.struct _),some i=>some (some i.size)
 | some (.array _ _),some i=>some (some i.size)
 | some _,some _=>some none
 | none,_=>none
 | some _,none=>none
def szT (P:Program) (t:TypeId):Option Nat:=(P.info? t).map (·.size)
def zeroT (P:Program) (t:TypeId):Option Value:=(P.info? t).bind (·.zero)
def fldT (P:Program) (s:TypeId) (f:Nat):Option Nat :=
 match P.underlying s with
 | some (.struct fs)=>match fs[f]? with
  | some x=>match P.info? x.type with
   | some i=>if i.size=0 then none else some x.offset
   | none=>none
  | none=>none
 | _=>none
def fldV (P:Program) (s:TypeId) (f:Nat):Option (Nat × Option Nat) :=
 match P.underlying s with
 | some (.struct fs)=>match fs[f]? with
  | some x=>(rdT P x.type).map fun k=>(x.offset,k)
  | none=>none
 | _=>none
def elT (P:Program) (t:TypeId):Option (Nat × Nat × List Value) :=
 match P.underlying t with
 | some (.slice e)=>match P.info? e with
  | some i=>match i.zero with
   | some z=>if z.cells.size=i.size then (if i.size=0∨i.bytes=0 then none else some (i.size,i.bytes,z.cells.toList)) else none
   | none=>none
  | none=>none
 | _=>none
def arrT (P:Program) (t:TypeId):Option (Nat × Nat) :=
 match P.underlying t with
 | some (.array n e)=>(szT P e).map fun s=>(n,s)
 | _=>none
def isBytesT (P:Program) (t:TypeId):Bool :=
 match P.underlying t with
 | some (.slice e)=>(match P.underlying e with | some (.int .u8)=>true | _=>false)
 | _=>false
def notInt (P:Program) (t:TypeId):Bool :=
 match P.underlying t with
 | some (.slice _) | some .string=>true
 | _=>false
def bldT (P:Program) (t:TypeId):Option (List Value × List (Nat × Nat)) :=
 match P.underlying t,zeroT P t with
 | some (.struct fs),some z=>(fs.toList.mapM fun f=>(szT P f.type).map fun s=>(f.offset,s)).map fun ps=>(z.cells.toList,ps)
 | some (.struct _),none=>none
 | some (.array n e),some z=>(szT P e).map fun s=>(z.cells.toList,(List.range n).map fun i=>(i * s,s))
 | some _,_=>none
 | none,_=>none
def isStrT (P:Program) (t:TypeId):Bool:=match P.underlying t with | some .string=>true | _=>false
def isSliceT (P:Program) (t:TypeId):Bool:=match P.underlying t with | some (.slice _)=>true | _=>false
def isMapT (P:Program) (t:TypeId):Bool:=match P.underlying t with | some (.map _ _)=>true | _=>false
def isPtrT (P:Program) (t:TypeId):Bool:=match P.underlying t with | some (.pointer _)=>true | _=>false
def mapT (P:Program) (t:TypeId):Option (TypeDesc × Value) :=
 match P.underlying t with
 | some (.map k e)=>match P.underlying k,zeroT P e with
  | some .string,some z=>some (.string,z)
  | some (.int i),some z=>some (.int i,z)
  | some .bool,some z=>some (.bool,z)
  | _,_=>none
 | _=>none
def AV.ofValue:Value→AV
 | .agg cs=>.agg (cs.toList.map .v)
 | .tuple cs=>.tuple (cs.toList.map .v)
 | c=>.v c
abbrev Env:=Nat→AV
def Env.put (env:Env) (d:Option Nat) (v:AV):Env:=match d with | some d=>fun t=>if t=d then v else env t | none=>env
def aeval (env:Env):Operand→AV
 | .tmp t=>env t
 | .const c=>.ofValue c
 | .global _=>.undef
 | .func f=>.fn f []
def AV.one:AV→Bool
 | .v c=>c.oneCell'
 | .undef | .agg _ | .tuple _=>false
 | _=>true
def AV.celled:AV→Option (List AV)
 | .agg cs=>if cs.all (·.one) then some cs else none
 | .v c=>if c.oneCell' then some [.v c] else none
 | .undef | .tuple _=>none
 | a=>some [a]
def readC:Option Nat→List AV→Option AV
 | none,l=>l.head?
 | some n,l=>if n≤l.length then some (.agg (l.take n)) else none
def splice (l:List AV) (off:Nat) (cs:List AV):List AV:=l.take off++cs++l.drop (off+cs.length)
def oneV:AV→Option Value
 | .v c=>some c
 | _=>none
def wideK (P:Program) (k:TypeId):Bool:=P.keyTypeAt 3 k && P.tiled 3 k && (match P.underlying k with | some (.array _ _) | some (.struct _)=>true | _=>false)
def keq:Value→Value→Bool
 | .string a,.string b=>decide (a=b)
 | .int j a,.int k b=>j == k && a == b
 | .bool a,.bool b=>a == b
 | _,_=>false
def keyOk:TypeDesc→Value→Bool
 | .string,.string _=>true
 | .int k,.int j _=>j == k
 | .bool,.bool _=>true
 | _,_=>false
def keysOk (d:TypeDesc) (es:List (Value × AV)):Prop:=∀ e∈es,keyOk d e.1=true
def aLook (es:List (Value × AV)) (k:Value):Option AV:=(es.find? fun e=>keq k e.1).map (·.2)
def aPut:List (Value × AV)→Value→AV→List (Value × AV)
 | [],k,a=>[(k,a)]
 | e::es,k,a=>if keq k e.1 then (k,a)::es else e::aPut es k a
def aDel:List (Value × AV)→Value→List (Value × AV)
 | [],_=>[]
 | e::es,k=>if keq k e.1 then es else e::aDel es k
def aVer (es:List (Value × AV)) (k:Value) (v:Nat) (put:Bool):Nat:=if (aLook es k).isSome == put then v else v+1
def intOp (op:BinOp) (k:IntKind) (a b:Int):Option Value :=
 match op with
 | .add=>some (.int k (k.wrap (a+b)))
 | .sub=>some (.int k (k.wrap (a - b)))
 | .mul=>some (.int k (k.wrap (a * b)))
 | .quo=>if b=0 then none else some (.int k (k.wrap (a.tdiv b)))
 | .rem=>if b=0 then none else some (.int k (a.tmod b))
 | .eql=>some (.bool (a == b))
 | .neq=>some (.bool (a != b))
 | .lss=>some (.bool (decide (a < b)))
 | .leq=>some (.bool (decide (a≤b)))
 | .gtr=>some (.bool (decide (a > b)))
 | .geq=>some (.bool (decide (a ≥ b)))
 | _=>none
def strOp (op:BinOp) (a b:ByteArray):Option Value :=
 match op with
 | .eql=>some (.bool (decide (a=b)))
 | .neq=>some (.bool (!decide (a=b)))
 | .lss=>some (.bool (Op.bytesLess a.toList b.toList))
 | .leq=>some (.bool (Op.bytesLess a.toList b.toList || decide (a=b)))
 | .gtr=>some (.bool (!(Op.bytesLess a.toList b.toList || decide (a=b))))
 | .geq=>some (.bool (!Op.bytesLess a.toList b.toList))
 | _=>none
inductive Mode where
 | imm
 | mut
 | nilv (z:Nat)
 | nila (z:Nat)
 | nilm (z:Nat)
 | nilb (z:Nat)
 | frz
 | own
 | nils (l:List (Nat × Bool))
 | late
 | lit
 | cut
def isMut (md:Nat→Mode):Option Nat→Bool
 | some d=>(match md d with | .mut=>true | _=>false)
 | none=>false
def isOwn (md:Nat→Mode):Option Nat→Bool
 | some d=>(match md d with | .own=>true | _=>false)
 | none=>false
def isLate (md:Nat→Mode):Option Nat→Bool
 | some d=>(match md d with | .late=>true | _=>false)
 | none=>false
def isCut (md:Nat→Mode):Option Nat→Bool
 | some d=>(match md d with | .cut=>true | _=>false)
 | none=>false
def isLit (md:Nat→Mode):Option Nat→Bool
 | some d=>(match md d with | .lit=>true | _=>false)
 | none=>false
def isNilS:AV→Bool
 | .v (.slice none 0 0)=>true
 | _=>false
def nilsW:List AV→List (Nat × Bool)→(List AV→AHeap→Prop)→AHeap→Prop
 | [],_,Kn,H=>Kn [] H
 | c::cs,l,Kn,H=>match isNilS c,l with
  | true,(z,b)::l'=>nilsW cs l' (fun cs' H'=>Kn ((if b=true then .vec H.next 0 else .slice [] (some H.next))::cs') H') (H.alloc (.tok 0 z (if b=true then some [] else none)))
  | _,_=>nilsW cs l (fun cs' H'=>Kn (c::cs') H') H
def tokL (t:Nat):List AV→Option (List AV)
 | []=>none
 | .v (.slice none 0 0)::cs=>some (.slice [] (some t)::cs)
 | c::cs=>(tokL t cs).map (c::·)
def tokAV (t:Nat):AV→Option AV
 | .v (.slice none 0 0)=>some (.slice [] (some t))
 | .agg cs=>(tokL t cs).map .agg
 | _=>none
def tokW (md:Nat→Mode) (d:Option Nat) (Kn:AV→AHeap→Prop) (v:AV) (H:AHeap):Prop :=
 match d with
 | none=>Kn v H
 | some d=>match md d with
  | .nilv z=>(match tokAV H.next v with
   | some v'=>Kn v' (H.alloc (.tok 0 z none))
   | none=>Kn v H)
  | .nilm z=>(match v with
   | .v (.slice none 0 0)=>Kn (.vec H.next 0) (H.alloc (.tok 0 z (some [])))
   | _=>Kn v H)
  | .frz=>(match v with
   | .vec id len=>(match H.get id with
    | some (.tok len' z (some rows))=>len'=len∧rows.length=len∧(∀ r∈rows,r.length=z∧r.all (·.one)=true)∧Kn (.slice rows (some id)) (H.upd id (.tok len z none))
    | _=>False)
   | _=>Kn v H)
  | .nils l=>(match v with
   | .agg cs=>nilsW cs l (fun cs' H'=>Kn (.agg cs') H') H
   | _=>Kn v H)
  | _=>Kn v H
section
variable (P:Program) (md:Nat→Mode) (env:Env) (H:AHeap) (Kn:AV→AHeap→Prop)
def ret (r:Option AV):Prop:=match r with | some a=>Kn a H | none=>False
def aLoad (t:TypeId) (addr:AV):Prop :=
 match rdT P t with
 | none=>False
 | some k=>match addr with
  | .ref id off=>match H.get id with
   | some (.cells l)=>ret H Kn (readC k (l.drop off))
   | _=>False
  | .iptr cs=>ret H Kn (readC k cs)
  | .vref id len z row off=>match H.get id with
   | some (.tok len' z' (some rows))=>len'=len∧z'=z∧(∀ r∈rows,r.length=z)∧(match rows[row]? with
    | some r=>ret H Kn (readC k (r.drop off))
    | none=>False)
   | _=>False
  | _=>False
def aStore (t:TypeId) (addr v:AV):Prop :=
 match v.celled with
 | none=>False
 | some cs=>szT P t=some cs.length∧(match addr with
  | .ref id off=>match H.get id with
   | some (.cells l)=>off+cs.length≤l.length∧Kn .undef (H.upd id (.cells (splice l off cs)))
   | _=>False
  | .vref id len z row off=>match H.get id with
   | some (.tok len' z' (some rows))=>len'=len∧z'=z∧(∀ r∈rows,r.length=z)∧(match rows[row]? with
    | some r=>off+cs.length≤r.length∧Kn .undef (H.upd id (.tok len z (some (rows.set row (splice r off cs)))))
    | none=>False)
   | _=>False
  | _=>False)
def aBin (op:BinOp) (t:TypeId) (x y:AV):Prop :=
 match x,y with
 | .v (.int k a),.v (.int j b)=>k=j∧ret H Kn ((intOp op k a b).map .v)
 | .v (.string a),.v (.string b)=>match op with
  | .add=>a.size+b.size≤4611686018427387904∧Kn (.v (.string (a++b))) H
  | op=>ret H Kn ((strOp op a b).map .v)
 | .v (.bool a),.v (.bool b)=>match P.underlying t,op with
  | some .bool,.eql=>Kn (.v (.bool (a == b))) H
  | some .bool,.neq=>Kn (.v (.bool (!(a == b)))) H
  | _,_=>False
 | .ref _ _,.v (.pointer none)=>match isPtrT P t,op with
  | true,.eql=>Kn (.v (.bool false)) H
  | true,.neq=>Kn (.v (.bool true)) H
  | _,_=>False
 | .v (.pointer none),.v (.pointer none)=>match isPtrT P t,op with
  | true,.eql=>Kn (.v (.bool true)) H
  | true,.neq=>Kn (.v (.bool false)) H
  | _,_=>False
 | .slice (_::_) _,.v (.slice none 0 0)=>match isSliceT P t,op with
  | true,.eql=>Kn (.v (.bool false)) H
  | true,.neq=>Kn (.v (.bool true)) H
  | _,_=>False
 | .v (.slice a 0 _),.v (.slice none 0 0)=>match isSliceT P t,op with
  | true,.eql=>Kn (.v (.bool a.isNone)) H
  | true,.neq=>Kn (.v (.bool (!a.isNone))) H
  | _,_=>False
 | _,_=>False
def aUn (op:UnOp) (x:AV):Prop :=
 match op,x with
 | .not,.v (.bool b)=>Kn (.v (.bool (!b))) H
 | .neg,.v (.int k n)=>Kn (.v (.int k (k.wrap (0 - n)))) H
 | _,_=>False
def bytesR:List (List AV)→Option (List Int)
 | []=>some []
 | [.v (.int .u8 n)]::rs=>(bytesR rs).map (n::·)
 | _::_=>none
def aConv (src dst:TypeId) (x:AV):Prop :=
 match P.underlying src,P.underlying dst,x with
 | some _,some .string,.slice rows _=>isBytesT P src=true∧(match bytesR rows with
  | some xs=>Kn (.v (.string (strOfNums xs))) H
  | none=>False)
 | some _,some (.int k),.v (.int _ n)=>Kn (.v (.int k (k.wrap n))) H
 | some _,some .string,.v (.int _ n)=>Kn (.v (.string (Utf8.encode n))) H
 | some _,some .string,.v (.string s)=>Kn (.v (.string s)) H
 | _,_,_=>False
def aFieldAddr (s:TypeId) (x:AV) (f:Nat):Prop :=
 match fldT P s f with
 | none=>False
 | some o=>match x with
  | .ref id off=>Kn (.ref id (off+o)) H
  | .iptr cs=>o≤cs.length∧Kn (.iptr (cs.drop o)) H
  | .vref id len z row off=>Kn (.vref id len z row (off+o)) H
  | _=>False
def aField (s:TypeId) (x:AV) (f:Nat):Prop :=
 match fldV P s f,x with
 | some (o,k),.agg cs=>ret H Kn (readC k (cs.drop o))
 | _,_=>False
def aIndexAddr (t:TypeId) (x i:AV):Prop :=
 match elT P t,x,i with
 | some (esz,_,_),.slice rows _,.v (.int _ n)=>0≤n∧(match rows[n.toNat]? with
  | some r=>r.length=esz∧Kn (.iptr r) H
  | none=>False)
 | some (esz,_,_),.vec id len,.v (.int _ n)=>0≤n∧n.toNat < len∧Kn (.vref id len esz n.toNat 0) H
 | some (esz,_,_),.ms id off len,.v (.int _ n)=>0≤n∧n.toNat < len∧Kn (.ref id (off+n.toNat * esz)) H
 | some (esz,_,_),.view id cur len,.v (.int _ n)=>0≤n∧n.toNat < len∧Kn (.vref id cur esz n.toNat 0) H
 | none,.ref id off,.v (.int _ n)=>(match arrT P t with
  | some (len,esz)=>0≤n∧n.toNat < len∧Kn (.ref id (off+n.toNat * esz)) H
  | none=>False)
 | _,_,_=>False
def aIndex (t:TypeId) (x i:AV):Prop :=
 match isStrT P t,x,i with
 | true,.v (.string s),.v (.int _ n)=>0≤n∧(match s.data.toList[n.toNat]? with
  | some b=>Kn (.v (.int .u8 b.toNat)) H
  | none=>False)
 | _,_,_=>False
def bnd (d:Nat):Option AV→Option Int
 | none=>some d
 | some (.v (.int _ n))=>some n
 | _=>none
def aSlice (t:TypeId) (x:AV) (lo hi mx:Option AV):Prop :=
 match mx with
 | some _=>False
 | none=>match x with
  | .v (.string s)=>isStrT P t=true∧(match bnd 0 lo,bnd s.size hi with
   | some l,some h=>0≤l∧l≤h∧h≤s.size∧Kn (.v (.string (s.extract l.toNat h.toNat))) H
   | _,_=>False)
  | .slice rows _=>(elT P t).isSome=true∧(match bnd 0 lo,bnd rows.length hi with
   | some l,some h=>0≤l∧l≤h∧h≤rows.length∧(∀ r∈rows,(elT P t).map (·.1)=some r.length)∧Kn (.slice ((rows.take h.toNat).drop l.toNat) none) H
   | _,_=>False)
  | .ms id off len=>(match elT P t,bnd 0 lo,bnd len hi with
   | some (esz,_,_),some l,some h=>0≤l∧l≤h∧h≤len∧l < len∧Kn (.ms id (off+l.toNat * esz) (h.toNat - l.toNat)) H
   | _,_,_=>False)
  | .vec id len=>(elT P t).isSome=true∧(match bnd 0 lo,bnd len hi with
   | some l,some h=>l=0∧0≤h∧h≤len∧Kn (.view id len h.toNat) H
   | _,_=>False)
  | .view id cur len=>(elT P t).isSome=true∧(match bnd 0 lo,bnd len hi with
   | some l,some h=>l=0∧0≤h∧h≤len∧Kn (.view id cur h.toNat) H
   | _,_=>False)
  | .ref id off=>(match arrT P t,lo,hi with
   | some (n,_),none,none=>n≠0∧Kn (.ms id off n) H
   | _,_,_=>False)
  | _=>False
def aCut (t:TypeId) (x:AV) (lo hi mx:Option AV):Prop :=
 match mx,hi,x with
 | none,none,.slice rows (some k)=>(match elT P t,bnd 0 lo,H.get k with
  | some (esz,_,_),some l,some (.tok len z none)=>0≤l∧l.toNat≤rows.length∧rows≠[]∧len=rows.length∧z=esz∧(∀ r∈rows,r.length=esz) ∧
    Kn (.slice (rows.drop l.toNat) (some H.next)) ((H.upd k .gone).alloc (.tok (rows.length - l.toNat) esz none))
  | _,_,_=>False)
 | _,_,_=>False
def aLen (t:TypeId) (x:AV):Prop :=
 match x with
 | .v (.string s)=>isStrT P t=true∧Kn (.v (.int .i64 s.size)) H
 | .v (.slice none 0 0)=>isSliceT P t=true∧Kn (.v (.int .i64 0)) H
 | .slice rows _=>isSliceT P t=true∧Kn (.v (.int .i64 rows.length)) H
 | .vec _ len=>isSliceT P t=true∧Kn (.v (.int .i64 len)) H
 | .ms _ _ len=>isSliceT P t=true∧Kn (.v (.int .i64 len)) H
 | .view _ _ len=>isSliceT P t=true∧Kn (.v (.int .i64 len)) H
 | .map id=>isMapT P t=true∧(match H.get id with
  | some (.amap es _)=>Kn (.v (.int .i64 es.length)) H
  | _=>False)
 | _=>False
def newRows:AV→Option (List (List AV))
 | .slice rows _=>some rows
 | .v (.slice _ 0 _)=>some []
 | .v (.string s)=>some (s.data.toList.map fun b=>[.v (.int .u8 b.toNat)])
 | _=>none
def aAppend (t u:TypeId) (s x:AV):Prop :=
 notInt P u=true∧(match elT P t,newRows x with
 | some (esz,by_,_),some new=>(∀ r∈new,r.length=esz∧r.all (·.one)=true)∧(match s with
  | .v (.slice none 0 0)=>new.length * by_≤70368744177664 ∧
    (if new=[] then Kn (.v (.slice none 0 0)) H else Kn (.slice new (some H.next)) (H.alloc (.tok new.length esz none)))
  | .slice rows (some k)=>(rows.length+new.length) * by_≤70368744177664∧(match H.get k with
   | some (.tok len z none)=>len=rows.length∧z=esz∧(∀ r∈rows,r.length=esz) ∧
     (if new=[] then Kn (.slice rows (some k)) H else Kn (.slice (rows++new) (some k)) (H.upd k (.tok (rows.length+new.length) esz none)))
   | _=>False)
  | .vec k n=>(n+new.length) * by_≤70368744177664∧(match H.get k with
   | some (.tok len z (some rows))=>len=n∧z=esz∧rows.length=n∧(∀ r∈rows,r.length=esz∧r.all (·.one)=true) ∧
     (if new=[] then Kn (.vec k n) H else Kn (.vec k (n+new.length)) (H.upd k (.tok (n+new.length) esz (some (rows++new)))))
   | _=>False)
  | .view k cur n=>(n+new.length) * by_≤70368744177664∧(match H.get k with
   | some (.tok len z (some rows))=>len=cur∧z=esz∧rows.length=cur∧(∀ r∈rows,r.length=esz∧r.all (·.one)=true)∧n≤cur∧new≠[] ∧
     (if n+new.length≤cur then Kn (.view k cur (n+new.length)) (H.upd k (.tok cur esz (some (rows.take n++new++rows.drop (n+new.length)))))
      else n=cur∧Kn (.view k (cur+new.length) (cur+new.length)) (H.upd k (.tok (cur+new.length) esz (some (rows++new)))))
   | _=>False)
  | _=>False)
 | _,_=>False)
def aAppendOwn (t u:TypeId) (s x:AV):Prop :=
 notInt P u=true∧(match elT P t,newRows x,s with
 | some (esz,by_,_),some new,.v (.slice none 0 0)=>(∀ r∈new,r.length=esz∧r.all (·.one)=true)∧new.length * by_≤70368744177664∧new≠[]∧Kn (.vec H.next new.length) (H.alloc (.tok new.length esz (some new)))
 | _,_,_=>False)
def aMin (x y:AV):Prop :=
 match x,y with
 | .v (.int k a),.v (.int _ b)=>Kn (.v (.int k (if b < a then b else a))) H
 | _,_=>False
def aMax (x y:AV):Prop :=
 match x,y with
 | .v (.int k a),.v (.int _ b)=>Kn (.v (.int k (if b > a then b else a))) H
 | _,_=>False
def aLookup (t:TypeId) (m k:AV) (ok:Bool):Prop :=
 match mapT P t,k with
 | some (d,z),.v key=>keyOk d key=true∧(match m with
  | .map id=>match H.get id with
   | some (.amap es _)=>keysOk d es∧(match aLook es key with
    | some a=>Kn (if ok then .tuple [a,.v (.bool true)] else a) H
    | none=>Kn (if ok then .tuple [.ofValue z,.v (.bool false)] else .ofValue z) H)
   | _=>False
  | .v (.map none)=>Kn (if ok then .tuple [.ofValue z,.v (.bool false)] else .ofValue z) H
  | _=>False)
 | _,_=>False
def aMapNew (t:TypeId) (id:Nat) (cs:List AV) (x:AV):Prop :=
 match P.underlying t,cs.mapM oneV with
 | some (.map kt _),some vs=>wideK P kt=true∧(keyOf P kt (.agg vs.toArray)).isSome=true∧(match H.get id with
  | some (.amap es v)=>(∀ e∈es,(keyOf P kt e.1).isSome=true∧e.1≠.agg vs.toArray)∧Kn .undef (H.upd id (.amap (es++[(.agg vs.toArray,x)]) (v+1)))
  | _=>False)
 | _,_=>False
def aMapUpdate (t:TypeId) (m k x:AV):Prop :=
 match mapT P t,m,k with
 | some (d,_),.map id,.v key=>keyOk d key=true∧(match H.get id with
  | some (.amap es v)=>keysOk d es∧Kn .undef (H.upd id (.amap (aPut es key x) (aVer es key v true)))
  | _=>False)
 | none,.map id,.agg cs=>aMapNew P H Kn t id cs x
 | _,_,_=>False
def aMapEntry (t:TypeId) (m k:AV):Prop :=
 match mapT P t,m,k with
 | some (d,z),.map id,.v key=>keyOk d key=true∧(match H.get id with
  | some (.amap es v)=>keysOk d es∧(match aLook es key with
   | some _=>False
   | none=>Kn (.tuple [.ofValue z,.stm id es.length (v+1)]) (H.upd id (.amap (aPut es key (.ofValue z)) (v+1))))
  | _=>False)
 | _,_,_=>False
def aEntryStore (m s x:AV):Prop :=
 match m,s with
 | .map id,.stm id' j ver=>id'=id∧(match H.get id with
  | some (.amap es v)=>v=ver∧(match es[j]? with
   | some e=>Kn .undef (H.upd id (.amap (es.set j (e.1,x)) v))
   | none=>False)
  | _=>False)
 | _,_=>False
def aDelete (t:TypeId) (m k:AV):Prop :=
 match mapT P t,m,k with
 | some (d,_),.map id,.v key=>keyOk d key=true∧(match H.get id with
  | some (.amap es v)=>keysOk d es∧Kn (.tuple []) (H.upd id (.amap (aDel es key) (aVer es key v false)))
  | _=>False)
 | _,_,_=>False
def aCopy (t:TypeId) (d s:AV):Prop :=
 match elT P t,d,s with
 | some (esz,_,_),.ms id off len,.slice rows _=>esz=1∧rows≠[]∧(∀ r∈rows,r.length=1)∧(match H.get id with
  | some (.cells l)=>off+min rows.length len≤l.length∧Kn (.v (.int .i64 (min rows.length len:Nat))) (H.upd id (.cells (splice l off (rows.take (min rows.length len)).flatten)))
  | _=>False)
 | _,_,_=>False
def aFill (ps:List (Nat × Nat)):List AV→List (Nat × AV)→Option (List AV)
 | l,[]=>some l
 | l,(i,x)::rest=>match ps[i]?,x.celled with
  | some (o,s),some cs=>if cs.length=s∧o+s≤l.length then aFill ps (splice l o cs) rest else none
  | _,_=>none
def aBuild (t:TypeId) (parts:List (Nat × AV)):Prop :=
 match bldT P t with
 | some (z,ps)=>ret H Kn ((aFill ps (z.map .v) parts).map .agg)
 | none=>False
def litRows (esz:Nat):Nat→List (Nat × AV)→Option (List (List AV))
 | _,[]=>some []
 | i,(j,x)::rest=>match x.celled,litRows esz (i+1) rest with
  | some cs,some rs=>if j=i∧cs.length=esz then some (cs::rs) else none
  | _,_=>none
def aBuildSlice (d:Option Nat) (t:TypeId) (len:Nat) (parts:List (Nat × AV)):Prop :=
 match elT P t with
 | some (esz,_,_)=>len * esz≤16777216∧parts.length=len∧(match litRows esz 0 parts with
  | some rows=>if isMut md d then Kn (.ms H.next 0 len) (H.alloc (.cells rows.flatten)) else if isOwn md d then Kn (.vec H.next len) (H.alloc (.tok len esz (some rows))) else if isLit md d then Kn (.slice rows none) H else Kn (.slice rows (some H.next)) (H.alloc (.tok len esz none))
  | none=>False)
 | none=>False
def aMakeSlice (d:Option Nat) (t:TypeId) (len cap:AV):Prop :=
 match elT P t,len,cap with
 | some (esz,by_,z),.v (.int .i64 l),.v (.int .i64 c)=>0≤l∧l≤c∧c * by_≤70368744177664∧c≤70368744177664 ∧
   (if isMut md d then Kn (.ms H.next 0 l.toNat) (H.alloc (.cells ((List.range (c.toNat * esz)).map fun i=>.v (z.getD (i % esz) undef)))) else
    if isLate md d then ∃ id,H.get id=some .hole∧Kn (.ms id 0 l.toNat) (H.upd id (.cells ((List.range (c.toNat * esz)).map fun i=>.v (z.getD (i % esz) undef)))) else
    if isOwn md d then l=c∧Kn (.vec H.next l.toNat) (H.alloc (.tok l.toNat esz (some (List.replicate l.toNat (z.map .v))))) else False)
 | _,_,_=>False
def aAlloc (d:Option Nat) (t:TypeId):Prop :=
 match zeroT P t with
 | none=>False
 | some z=>match d.map md with
  | some (.nila n)=>(match tokL H.next (z.cells.toList.map .v) with
   | some cs=>Kn (.ref (H.next+1) 0) ((H.alloc (.tok 0 n none)).alloc (.cells cs))
   | none=>False)
  | some (.nilb n)=>(match z.cells.toList with
   | [.slice none 0 0]=>Kn (.ref (H.next+1) 0) ((H.alloc (.tok 0 n (some []))).alloc (.cells [.vec H.next 0]))
   | _=>False)
  | some .late=>∃ id,H.get id=some .hole∧Kn (.ref id 0) (H.upd id (.cells (z.cells.toList.map .v)))
  | _=>Kn (.ref H.next 0) (H.alloc (.cells (z.cells.toList.map .v)))
def aEntry (it:AV):Prop :=
 match it with
 | .ref id 0=>(match H.get id with
  | some (.iter m ver _ (some j))=>(match H.get m with
   | some (.amap es ver')=>ver'=ver∧(match es[j]? with
    | some e=>Kn (.tuple [.v e.1,e.2]) H
    | none=>False)
   | _=>False)
  | _=>False)
 | _=>False
def aop (o:Oper):Prop :=
 match o.op with
 | .move x | .assign x=>Kn (aeval env x) H
 | .pick c a b=>(match aeval env c with | .v (.bool t)=>Kn (if t then aeval env a else aeval env b) H | _=>False)
 | .alloc t=>aAlloc P md H Kn o.dst t
 | .box _ x=>(match (aeval env x).celled with | some cs=>Kn (.ref H.next 0) (H.alloc (.cells cs)) | none=>False)
 | .build t parts=>aBuild P H Kn t (parts.toList.map fun p=>(p.1,aeval env p.2))
 | .buildSlice t len parts=>aBuildSlice P md H Kn o.dst t len (parts.toList.map fun p=>(p.1,aeval env p.2))
 | .load t a=>aLoad P H Kn t (aeval env a)
 | .store t a x=>aStore P H Kn t (aeval env a) (aeval env x)
 | .nilCheck x=>(match aeval env x with | .ref i n=>Kn (.ref i n) H | .iptr cs=>Kn (.iptr cs) H | .vref a b c d e=>Kn (.vref a b c d e) H | .fn f cs=>Kn (.fn f cs) H | _=>False)
 | .binOp op t x y _=>aBin P H Kn op t (aeval env x) (aeval env y)
 | .unOp op _ x=>aUn H Kn op (aeval env x)
 | .convert src dst x=>aConv P H Kn src dst (aeval env x)
 | .makeFunc (.func f) first caps=>first=#[]∧Kn (.fn f (caps.toList.map (aeval env))) H
 | .makeMap _ none=>Kn (.map H.next) (H.alloc (.amap [] 0))
 | .makeSlice t l c=>aMakeSlice P md H Kn o.dst t (aeval env l) (aeval env c)
 | .slice t x lo hi mx=>if isCut md o.dst then aCut P H Kn t (aeval env x) (lo.map (aeval env)) (hi.map (aeval env)) (mx.map (aeval env)) else aSlice P H Kn t (aeval env x) (lo.map (aeval env)) (hi.map (aeval env)) (mx.map (aeval env))
 | .fieldAddr s x f=>aFieldAddr P H Kn s (aeval env x) f
 | .field s x f=>aField P H Kn s (aeval env x) f
 | .indexAddr t x i=>aIndexAddr P H Kn t (aeval env x) (aeval env i)
 | .index t x i=>aIndex P H Kn t (aeval env x) (aeval env i)
 | .lookup t m k ok=>aLookup P H Kn t (aeval env m) (aeval env k) ok
 | .mapUpdate t m k x=>aMapUpdate P H Kn t (aeval env m) (aeval env k) (aeval env x)
 | .insert t m k x=>aMapUpdate P H Kn t (aeval env m) (aeval env k) (aeval env x)
 | .mapEntry t m k=>aMapEntry P H Kn t (aeval env m) (aeval env k)
 | .entryStore _ m s x=>aEntryStore H Kn (aeval env m) (aeval env s) (aeval env x)
 | .range t m=>(match aeval env m with
  | .map id=>isMapT P t=true∧(match H.get id with
   | some (.amap es v)=>Kn (.ref H.next 0) (H.alloc (.iter id v (List.range es.length) none))
   | _=>False)
  | _=>False)
 | .entry it=>aEntry H Kn (aeval env it)
 | .extract t n=>(match aeval env t with | .tuple cs=>ret H Kn cs[n]? | _=>False)
 | .call ⟨.builtin .len,args,tys⟩=>(match args.toList,tys.toList with
  | [x],[t]=>aLen P H Kn t (aeval env x)
  | _,_=>False)
 | .call ⟨.builtin .append,args,tys⟩=>(match args.toList,tys.toList with
  | [s,x],[t,u]=>if isOwn md o.dst then aAppendOwn P H Kn t u (aeval env s) (aeval env x) else aAppend P H Kn t u (aeval env s) (aeval env x)
  | _,_=>False)
 | .call ⟨.builtin .delete,args,tys⟩=>(match args.toList,tys.toList with
  | m::k::_,t::_=>aDelete P H Kn t (aeval env m) (aeval env k)
  | _,_=>False)
 | .call ⟨.builtin .copy,args,tys⟩=>(match args.toList,tys.toList with
  | [d,s],[t,_]=>aCopy P H Kn t (aeval env d) (aeval env s)
  | _,_=>False)
 | .call ⟨.builtin .min,args,_⟩=>(match args.toList with
  | [x,y]=>aMin H Kn (aeval env x) (aeval env y)
  | _=>False)
 | .call ⟨.builtin .max,args,_⟩=>(match args.toList with
  | [x,y]=>aMax H Kn (aeval env x) (aeval env y)
  | _=>False)
 | _=>False
end
end Go.Abs
