/- What a text is read as: the reader of places and the reader of tokens. -/
import Derived.Test.YtgeehnbbhnpimaaGreatMV1
set_option linter.unusedVariables false
set_option linter.unusedSimpArgs false
namespace Go.Proofs.YtgeehnbbhnpimaaGreat
open Go Go.Abs Go.Proofs
section
variable (hd:Nat→ByteArray) (nx:Nat→Nat)
theorem p_mono:∀ (f:Nat),(∀ k r,pAlone hd nx f k=some r→pAlone hd nx (f+1) k=some r)∧(∀ n acc k r,pArgs hd nx f n acc k=some r→pArgs hd nx (f+1) n acc k=some r)∧(∀ k r,pWhole hd nx f k=some r→pWhole hd nx (f+1) k=some r):=by
 intro f
 induction f with
 | zero=>exact ⟨fun k r h=>by simp [pAlone] at h,fun n acc k r h=>by simp [pArgs] at h,fun k r h=>by simp [pWhole] at h⟩
 | succ f ih =>
  obtain ⟨h1,h2,h3⟩:=ih
  refine ⟨fun k r h=>?_,fun n acc k r h=>?_,fun k r h=>?_⟩
  ·rw [pAlone] at h ⊢
   by_cases c1:(smallN (hd k) || greatN (hd k))=true
   ·rw [if_pos c1] at h ⊢;exact h
   rw [if_neg c1] at h ⊢
   by_cases c2:hd k=opS
   ·rw [if_pos c2] at h ⊢
    revert h
    cases hw:pWhole hd nx f (nx k) with
    | none=>intro h;cases h
    | some r1=>rw [h3 _ _ hw];exact id
   ·rw [if_neg c2] at h ⊢;exact h
  ·rw [pArgs] at h ⊢
   by_cases c1:(smallN (hd k) || greatN (hd k) || decide (hd k=opS))=true
   ·rw [if_pos c1] at h ⊢
    revert h
    cases hw:pAlone hd nx f k with
    | none=>intro h;cases h
    | some r1 =>
     rw [h1 _ _ hw]
     cases r1 with
     | bad k'=>exact id
     | ok t k'=>exact h2 _ _ _ _
   ·rw [if_neg c1] at h ⊢;exact h
  ·rw [pWhole] at h ⊢
   have hx:∀ r,(if greatN (hd k)=true then pArgs hd nx f (hd k) [] (nx k) else pAlone hd nx f k)=some r→(if greatN (hd k)=true then pArgs hd nx (f+1) (hd k) [] (nx k) else pAlone hd nx (f+1) k)=some r:=by
    intro r hr
    by_cases c:greatN (hd k)=true
    ·rw [if_pos c] at hr ⊢;exact h2 _ _ _ _ hr
    ·rw [if_neg c] at hr ⊢;exact h1 _ _ hr
   revert h
   cases hw:(if greatN (hd k)=true then pArgs hd nx f (hd k) [] (nx k) else pAlone hd nx f k) with
   | none=>intro h;cases h
   | some r1 =>
    rw [hx _ hw]
    cases r1 with
    | bad k'=>exact id
    | ok a k' =>
     simp only
     by_cases c:hd k'=arwS
     ·rw [if_pos c,if_pos c]
      cases hw2:pWhole hd nx f (nx k') with
      | none=>intro h;cases h
      | some r2=>rw [h3 _ _ hw2];exact id
     ·rw [if_neg c,if_neg c];exact id
theorem pWhole_le {f g k:Nat} {r:PR} (h:pWhole hd nx f k=some r) (hfg:f≤g):pWhole hd nx g k=some r:=by
 induction hfg with
 | refl=>exact h
 | step _ ih=>exact (p_mono hd nx _).2.2 _ _ ih
end
theorem isSp_eq (c:UInt8):isSp c=true↔c=32:=by
 unfold isSp
 rw [decide_eq_true_eq]
 constructor
 ·intro h
  apply UInt8.toNat_inj.1
  have:(32:UInt8).toNat=32:=rfl
  omega
 ·rintro rfl;rfl
theorem lex_skip:∀ l:List UInt8,lex (l.drop (tw isSp l))=lex l
 | []=>by simp [tw]
 | c::l=>by
  by_cases h:isSp c=true
  ·have e:tw isSp (c::l)=tw isSp l+1:=by unfold tw;rw [List.takeWhile_cons,if_pos h];rfl
   rw [e,List.drop_succ_cons,lex_skip l,(isSp_eq c).1 h,lex_sp]
  ·have e:tw isSp (c::l)=0:=by unfold tw;rw [List.takeWhile_cons,if_neg h];rfl
   rw [e,List.drop_zero]
theorem drop_tw (p:UInt8→Bool):∀ l:List UInt8,l.drop (tw p l)=l.dropWhile p
 | []=>by simp [tw]
 | c::l=>by
  unfold tw
  rw [List.takeWhile_cons,List.dropWhile_cons]
  by_cases h:p c=true
  ·rw [if_pos h,if_pos h,List.length_cons,List.drop_succ_cons];exact drop_tw p l
  ·rw [if_neg h,if_neg h];rfl
theorem take_tw (p:UInt8→Bool):∀ l:List UInt8,l.take (tw p l)=l.takeWhile p
 | []=>by simp [tw]
 | c::l=>by
  unfold tw
  rw [List.takeWhile_cons]
  by_cases h:p c=true
  ·rw [if_pos h,List.length_cons,List.take_succ_cons];rw [show l.take (l.takeWhile p).length=l.takeWhile p from take_tw p l]
  ·rw [if_neg h];rfl
theorem bL_extract (s:ByteArray) (a b:Nat) (h:a≤b):bL (s.extract a b)=((byt s).drop a).take (b - a):=by
 unfold bL byt
 rw [ByteArray.data_extract,Array.toList_extract]
theorem lex_at (s:ByteArray) (k:Nat) (hk:k≤s.size):lex ((byt s).drop k)=if spN s k < s.size then bL (hdR s k)::lex ((byt s).drop (nxR s k)) else []:=by
 obtain ⟨hk1,hk2⟩:=spN_le hk
 have e1:lex ((byt s).drop k)=lex ((byt s).drop (spN s k)):=by
  rw [←lex_skip ((byt s).drop k),List.drop_drop];rfl
 have hat:∀ c,(byt s)[spN s k]?=some c→isSp c=false:=fun c hc=>(tw_at (p:=isSp) (l:=(byt s).drop k)).2 c (by rw [List.getElem?_drop];exact hc)
 rw [e1]
 unfold hdR nxR
 obtain ⟨he1,he2,_⟩:=endN_le hk2
 rw [bL_extract _ _ _ he1]
 generalize spN s k=j at *
 by_cases hj:j < s.size
 rotate_left
 ·rw [if_neg hj,List.drop_eq_nil_of_le (by rw [byt_len];omega),lex]
 rw [if_pos hj]
 obtain ⟨c,hc⟩:∃ c,(byt s)[j]?=some c:=⟨_,List.getElem?_eq_getElem (by rw [byt_len];exact hj)⟩
 have hlt:j < (byt s).length:=by rw [byt_len];exact hj
 have ed:(byt s).drop j=c::(byt s).drop (j+1):=by
  rw [List.drop_eq_getElem_cons hlt]
  congr 1
  rw [List.getElem?_eq_getElem hlt] at hc
  exact Option.some.inj hc
 have hc32:c≠32:=fun h=>by
  have:=hat c hc
  rw [(isSp_eq c).2 h] at this;cases this
 have een:endN s j=if tailB c then j+1+tw tailB ((byt s).drop (j+1)) else if (c.toNat:Int)=45∧∃ d,(byt s)[j+1]?=some d∧(d.toNat:Int)=62 then j+2 else j+1:=by
  unfold endN;rw [hc]
 rw [een,ed,lex,if_neg hc32]
 by_cases ht:tailB c=true
 ·rw [if_pos ht,if_pos ht]
  have e2:j+1+tw tailB ((byt s).drop (j+1)) - j=tw tailB ((byt s).drop (j+1))+1:=by omega
  rw [e2,List.take_succ_cons,take_tw,←drop_tw,List.drop_drop]
 rw [if_neg ht,if_neg ht]
 have hcond:(c=45∧((byt s).drop (j+1)).head?=some 62)↔((c.toNat:Int)=45∧∃ d,(byt s)[j+1]?=some d∧(d.toNat:Int)=62):=by
  rw [List.head?_drop]
  constructor
  ·rintro ⟨rfl,h⟩;exact ⟨rfl,62,h,rfl⟩
  ·rintro ⟨h1,d,h2,h3⟩
   refine ⟨UInt8.toNat_inj.1 (by have:(45:UInt8).toNat=45:=rfl;omega),?_⟩
   rw [h2]
   exact congrArg some (UInt8.toNat_inj.1 (by have:(62:UInt8).toNat=62:=rfl;omega))
 by_cases hw:c=45∧((byt s).drop (j+1)).head?=some 62
 ·rw [if_pos hw,if_pos (hcond.1 hw)]
  have e3:(byt s).drop (j+1)=62::(byt s).drop (j+2):=by
   have h2:=hw.2
   rw [List.head?_drop] at h2
   have hl2:=(List.getElem?_eq_some_iff.1 h2).1
   rw [List.drop_eq_getElem_cons hl2]
   congr 1
   rw [List.getElem?_eq_getElem hl2] at h2
   exact Option.some.inj h2
  rw [e3,hw.1,show j+2 - j=2 by omega]
  rfl
 ·rw [if_neg hw,if_neg (fun h=>hw (hcond.2 h)),show j+1 - j=1 by omega]
  rfl
def At (s:ByteArray) (k:Nat) (T:List (List UInt8)):Prop:=k≤s.size∧lex ((byt s).drop k)=T
theorem at_cons {s:ByteArray} {k:Nat} {a:List UInt8} {T:List (List UInt8)} (h:At s k (a::T)):hdR s k=toB a∧At s (nxR s k) T:=by
 obtain ⟨h1,h2⟩:=h
 rw [lex_at s k h1] at h2
 split at h2
 ·obtain ⟨e1,e2⟩:=List.cons.inj h2
  exact ⟨by rw [←e1,toB_bL],nxR_le h1,e2⟩
 ·cases h2
theorem at_nil {s:ByteArray} {k:Nat} (h:At s k []):hdR s k=ByteArray.empty∧spN s k=s.size:=by
 obtain ⟨h1,h2⟩:=h
 rw [lex_at s k h1] at h2
 split at h2
 ·cases h2
 ·have h3:=spN_le h1
  have e:spN s k=s.size:=by omega
  refine ⟨?_,e⟩
  apply bL_inj
  unfold hdR
  rw [bL_extract _ _ _ (endN_le h3.2).1,e,List.drop_eq_nil_of_le (by rw [byt_len];omega),List.take_nil]
  rfl
end Go.Proofs.YtgeehnbbhnpimaaGreat
namespace Go.Proofs.YtgeehnbbhnpimaaGreat
open Go Go.Abs Go.Proofs
theorem toB_eq {a:List UInt8} {s:ByteArray}:toB a=s↔a=bL s:=by
 constructor
 ·rintro rfl;simp [toB,bL]
 ·rintro rfl;exact toB_bL s
section
variable {s:ByteArray}
theorem rd_p:∀ (f:Nat),(∀ T t r k,At s k T→rdAlone f T=some (t,r)→∀ g,f≤g→∃ k',pAlone (hdR s) (nxR s) g k=some (.ok t k')∧At s k' r) ∧
  (∀ T ts r k n acc,At s k T→rdArgs f T=some (ts,r)→∀ g,f≤g→∃ k',pArgs (hdR s) (nxR s) g n acc k=some (.ok (.mk n (acc++ts)) k')∧At s k' r) ∧
  (∀ T t r k,At s k T→rdApplied f T=some (t,r)→∀ g,f≤g+1→∃ k',(if greatN (hdR s k)=true then pArgs (hdR s) (nxR s) g (hdR s k) [] (nxR s k) else pAlone (hdR s) (nxR s) g k)=some (.ok t k')∧At s k' r) ∧
  (∀ T t r k,At s k T→rdWhole f T=some (t,r)→∀ g,f≤g→∃ k',pWhole (hdR s) (nxR s) g k=some (.ok t k')∧At s k' r):=by
 intro f
 induction f with
 | zero=>exact ⟨fun T t r k _ h=>by simp [rdAlone] at h,fun T ts r k n acc _ h=>by simp [rdArgs] at h,fun T t r k _ h=>by simp [rdApplied] at h,fun T t r k _ h=>by simp [rdWhole] at h⟩
 | succ f ih =>
  obtain ⟨h1,h2,h3,h4⟩:=ih
  refine ⟨fun T t r k hT h g hg=>?_,fun T ts r k n acc hT h g hg=>?_,fun T t r k hT h g hg=>?_,fun T t r k hT h g hg=>?_⟩
  ·obtain ⟨g,rfl⟩:∃ g',g=g'+1:=⟨g - 1,by omega⟩
   cases T with
   | nil=>simp [rdAlone] at h
   | cons a T =>
    obtain ⟨e1,e2⟩:=at_cons hT
    rw [rdAlone] at h
    rw [pAlone,e1]
    by_cases c1:isN a=true
    ·rw [if_pos c1] at h
     simp only [Option.some.injEq,Prod.mk.injEq] at h
     obtain ⟨rfl,rfl⟩:=h
     rw [if_pos (by unfold isN at c1;rw [Bool.or_comm];exact c1)]
     exact ⟨_,rfl,e2⟩
    ·rw [if_neg c1] at h
     rw [if_neg (by unfold isN at c1;rw [Bool.or_comm];exact c1)]
     by_cases c2:a=opT
     ·rw [if_pos c2] at h
      rw [if_pos (toB_eq.2 c2)]
      cases hw:rdWhole f T with
      | none=>rw [hw] at h;cases h
      | some x =>
       obtain ⟨t2,r2⟩:=x
       rw [hw] at h
       cases r2 with
       | nil=>cases h
       | cons b r2 =>
        simp only at h
        split at h
        ·rename_i c3
         simp only [Option.some.injEq,Prod.mk.injEq] at h
         obtain ⟨rfl,rfl⟩:=h
         obtain ⟨k',p1,p2⟩:=h4 _ _ _ _ e2 hw g (by omega)
         obtain ⟨q1,q2⟩:=at_cons p2
         rw [p1]
         simp only
         rw [if_pos (by rw [q1];exact toB_eq.2 c3)]
         exact ⟨_,rfl,q2⟩
        ·cases h
     ·rw [if_neg c2] at h;cases h
  ·obtain ⟨g,rfl⟩:∃ g',g=g'+1:=⟨g - 1,by omega⟩
   cases T with
   | nil =>
    rw [rdArgs] at h
    simp only [Option.some.injEq,Prod.mk.injEq] at h
    obtain ⟨rfl,rfl⟩:=h
    have e:=(at_nil hT).1
    rw [pArgs,e,if_neg (by decide),List.append_nil]
    exact ⟨_,rfl,hT⟩
   | cons a T =>
    obtain ⟨e1,e2⟩:=at_cons hT
    rw [rdArgs] at h
    rw [pArgs]
    by_cases c1:isN a=true∨a=opT
    ·rw [if_pos c1] at h
     rw [if_pos (by
      rw [e1]
      rcases c1 with c | c
      ·unfold isN at c;rw [Bool.or_comm] at c;rw [c];rfl
      ·rw [show toB a=opS from toB_eq.2 c];decide)]
     cases hw:rdAlone f (a::T) with
     | none=>rw [hw] at h;cases h
     | some x =>
      obtain ⟨t2,r2⟩:=x
      rw [hw] at h
      simp only at h
      cases hw2:rdArgs f r2 with
      | none=>rw [hw2] at h;cases h
      | some y =>
       obtain ⟨ts2,r3⟩:=y
       rw [hw2] at h
       simp only [Option.some.injEq,Prod.mk.injEq] at h
       obtain ⟨rfl,rfl⟩:=h
       obtain ⟨k',p1,p2⟩:=h1 _ _ _ _ hT hw g (by omega)
       rw [p1]
       obtain ⟨k2,q1,q2⟩:=h2 _ _ _ _ n (acc++[t2]) p2 hw2 g (by omega)
       refine ⟨k2,?_,q2⟩
       simp only
       rw [q1,List.append_assoc];rfl
    ·rw [if_neg c1] at h
     simp only [Option.some.injEq,Prod.mk.injEq] at h
     obtain ⟨rfl,rfl⟩:=h
     rw [if_neg (by
      rw [e1]
      intro hc
      rw [Bool.or_eq_true,decide_eq_true_eq] at hc
      rcases hc with c | c
      ·exact c1 (.inl (by unfold isN;rw [Bool.or_comm];exact c))
      ·exact c1 (.inr (toB_eq.1 c))),List.append_nil]
     exact ⟨_,rfl,hT⟩
  ·cases T with
   | nil=>simp [rdApplied] at h
   | cons a T =>
    obtain ⟨e1,e2⟩:=at_cons hT
    rw [rdApplied] at h
    rw [e1]
    by_cases c1:greatN (toB a)=true
    ·rw [if_pos c1] at h ⊢
     cases hw:rdArgs f T with
     | none=>rw [hw] at h;cases h
     | some x =>
      obtain ⟨ts,r2⟩:=x
      rw [hw] at h
      simp only [Option.some.injEq,Prod.mk.injEq] at h
      obtain ⟨rfl,rfl⟩:=h
      obtain ⟨k',p1,p2⟩:=h2 _ _ _ _ (toB a) [] e2 hw g (by omega)
      exact ⟨k',p1,p2⟩
    ·rw [if_neg c1] at h ⊢
     exact h1 _ _ _ _ hT h g (by omega)
  ·obtain ⟨g,rfl⟩:∃ g',g=g'+1:=⟨g - 1,by omega⟩
   rw [rdWhole] at h
   rw [pWhole]
   cases hw:rdApplied f T with
   | none=>rw [hw] at h;cases h
   | some x =>
    obtain ⟨a,r2⟩:=x
    rw [hw] at h
    simp only at h
    obtain ⟨k',p1,p2⟩:=h3 _ _ _ _ hT hw g (by omega)
    rw [p1]
    simp only
    cases r2 with
    | nil =>
     simp only [Option.some.injEq,Prod.mk.injEq] at h
     obtain ⟨rfl,rfl⟩:=h
     rw [if_neg (by rw [(at_nil p2).1];decide)]
     exact ⟨_,rfl,p2⟩
    | cons b r2 =>
     obtain ⟨q1,q2⟩:=at_cons p2
     simp only at h
     by_cases c:b=arT
     ·rw [if_pos c] at h
      rw [if_pos (by rw [q1];exact toB_eq.2 c)]
      cases hw2:rdWhole f r2 with
      | none=>rw [hw2] at h;cases h
      | some y =>
       obtain ⟨b2,r3⟩:=y
       rw [hw2] at h
       simp only [Option.some.injEq,Prod.mk.injEq] at h
       obtain ⟨rfl,rfl⟩:=h
       obtain ⟨k2,s1,s2⟩:=h4 _ _ _ _ q2 hw2 g (by omega)
       rw [s1]
       exact ⟨_,rfl,s2⟩
     ·rw [if_neg c] at h
      simp only [Option.some.injEq,Prod.mk.injEq] at h
      obtain ⟨rfl,rfl⟩:=h
      rw [if_neg (by rw [q1];exact fun e=>c (toB_eq.1 e))]
      exact ⟨_,rfl,p2⟩
end
structure PadOk (t:Ty) (s:ByteArray) (T:List (List UInt8)):Prop where
 lx:∀ r,NoTail r→lex (bL s++r)=T++lex r
 rd:∃ f0,∀ f,f0≤f→∀ r,NoArg r→NoAr r→rdWhole f (T++r)=some (t,r)
theorem pad_step {t:Ty} {s:ByteArray} {T:List (List UInt8)} (h:PadOk t s T) (i:Int):∃ T',PadOk t (pad1 s i) T':=by
 obtain ⟨h1,f0,h2⟩:=h
 by_cases hi:i.tmod 3=0
 ·refine ⟨opT::(T++[clT]),fun r hr=>?_,f0+3,fun f hf r hr ha=>?_⟩
  ·rw [pad1,if_pos hi,bL_append,bL_append,show bL ⟨#[40]⟩=[40] from rfl,show bL ⟨#[41]⟩=[41] from rfl]
   simp only [List.cons_append,List.nil_append,List.append_assoc]
   rw [lex_op,h1 (41::r) (show NoTail (41::r) from tail_no41),lex_cl]
  ·obtain ⟨f,rfl⟩:∃ g,f=g+3:=⟨f - 3,by omega⟩
   have e:=h2 f (by omega) (clT::r) (na_cl r) (nr_cl r)
   simp only [List.cons_append,List.append_assoc,List.nil_append]
   rw [rdWhole,rdApplied]
   simp only [great_op,Bool.false_eq_true,if_false]
   rw [rdAlone]
   simp only [isN_op,Bool.false_eq_true,if_false,if_true,e]
   cases r with
   | nil=>rfl
   | cons b r =>
    simp only
    rw [if_neg ha]
 ·refine ⟨T,fun r hr=>?_,f0,h2⟩
  rw [pad1,if_neg hi,bL_append,bL_append,show bL ⟨#[32]⟩=[32] from rfl,show bL ⟨#[32,32]⟩=[32,32] from rfl]
  simp only [List.cons_append,List.nil_append,List.append_assoc]
  rw [lex_sp,h1 (32::32::r) (show NoTail (32::32::r) from tail_no32),lex_sp,lex_sp]
theorem pads_ok {t:Ty}:∀ (l:List Int) {s:ByteArray} {T:List (List UInt8)},PadOk t s T→∃ T',PadOk t (padS s l) T'
 | [],s,T,h=>⟨T,h⟩
 | i::l,s,T,h=>by
  obtain ⟨T',h'⟩:=pad_step h i
  exact pads_ok l h'
theorem back_facts (t:Ty) (l:List Int) (hv:t.valid=0) (hz:(padS (textT t 0) l).size≤20000):parseR (padS (textT t 0) l)=(t,0,0):=by
 have hg:=((valid_iff t).1 hv).2
 obtain ⟨f0,hf⟩:=rd_ok hg
 have h0:PadOk t (textT t 0) (toks t 0):=⟨text_nolen hg,f0,fun f h r h1 h2=>(hf f h).2.2 r h1 h2⟩
 obtain ⟨T,h1,f1,h2⟩:=pads_ok l h0
 generalize padS (textT t 0) l=s at *
 have e:=h1 [] trivial
 rw [List.append_nil,show lex []=[] by rw [lex],List.append_nil] at e
 have hat:At s 0 T:=⟨Nat.zero_le _,e⟩
 have hr:=h2 f1 (Nat.le_refl _) [] trivial trivial
 rw [List.append_nil] at hr
 obtain ⟨k',p1,p2⟩:=(rd_p f1).2.2.2 _ _ _ _ hat hr (max f1 (2 * s.size+2)) (Nat.le_max_left _ _)
 have p3:=pWhole_le _ _ (readR_eq s) (Nat.le_max_right f1 _)
 rw [p1] at p3
 have e4:readR s=.ok t k':=(Option.some.inj p3).symm
 have e5:=(at_nil p2).2
 unfold parseR
 rw [if_neg (by omega),e4]
 simp only
 rw [if_neg (by omega),if_pos hv]
end Go.Proofs.YtgeehnbbhnpimaaGreat
