/- Match. -/
import Derived.Test.YtgeehnbbhnpimaaGreatMW2
set_option linter.unusedVariables false
set_option linter.unusedSimpArgs false
namespace Go.Proofs.YtgeehnbbhnpimaaGreat
open Go Go.Abs Go.Proofs
set_option maxRecDepth 20000
attribute [local simp] aOps wantedA aStep aop aLoad aStore aBin aUn aFieldAddr aField aIndexAddr aIndex aLen aBuild aFill aAlloc aAppend aBuildSlice litRows newRows isMut isOwn isNilS nilsW bytesR tokW tokAV tokL ret readC splice aeval isLit isLate AV.celled AV.one AV.ofValue Value.oneCell' Value.cells intOp strOp get_nid upd_nid awp aEnd aResults aResult Det unord isCall isNext
attribute [local simp] low_take low_strs low_comp low_tcomp wkEs_refl' WkBs WkEnv WkB WkL WkE WkO ABlock.low lowO lowL lowR AV.low cellsL_eq Ty.low low_map Ty.cells_length Ty.cells_one
attribute [local simp] low_bind
theorem lookT_some {m:TyM} {s:ByteArray} (h:s∈m.map (·.1)):∃ t,lookT m s=some t:=by
 obtain ⟨p,hp,rfl⟩:=List.mem_map.1 h
 cases hl:lookT m p.1 with
 | some t=>exact ⟨t,rfl⟩
 | none =>
  unfold lookT at hl
  simp only [Option.map_eq_none_iff,List.find?_eq_none,decide_eq_true_eq] at hl
  exact absurd rfl (hl p hp)
theorem lookT_none_iff {m:TyM} {s:ByteArray}:lookT m s=none↔s ∉ m.map (·.1):=by
 refine ⟨fun h hm=>?_,lookT_none⟩
 obtain ⟨t,ht⟩:=lookT_some hm
 rw [h] at ht;cases ht
theorem nodup_app {m:TyM} {s:ByteArray} {t:Ty} (h:(m.map (·.1)).Nodup) (hk:lookT m s=none):((m++[(s,t)]).map (·.1)).Nodup:=by
 rw [List.map_append,List.nodup_append]
 refine ⟨h,by simp,fun a ha b hb=>?_⟩
 simp only [List.map_cons,List.map_nil,List.mem_singleton] at hb
 subst hb
 rintro rfl
 exact lookT_none_iff.1 hk ha
mutual
theorem matT_nodup:∀ (p t:Ty) (m:TyM),(m.map (·.1)).Nodup→((matT p t m).2.map (·.1)).Nodup
 | .mk n l,t,m,hm=>by
  rw [matT]
  split
  ·split
   ·exact hm
   ·rename_i hk;exact nodup_app hm hk
  ·split
   ·exact matL_nodup l t.args m hm
   ·exact hm
theorem matL_nodup:∀ (l l':List Ty) (m:TyM),(m.map (·.1)).Nodup→((matL l l' m).2.map (·.1)).Nodup
 | p::ps,t::ts,m,hm=>by
  rw [matL]
  split
  ·exact matL_nodup ps ts _ (matT_nodup p t m hm)
  ·exact matT_nodup p t m hm
 | [],_,m,hm=>by simpa [matL] using hm
 | _::_,[],m,hm=>by simpa [matL] using hm
end
mutual
theorem matT_len:∀ (p t:Ty) (m:TyM),(matT p t m).2.length≤m.length+p.cnt
 | .mk n l,t,m=>by
  have hc:(Ty.mk n l).cnt=(nodesL l).length+1:=by simp [Ty.cnt,Ty.nodes]
  rw [matT]
  split
  ·split
   ·simp
   ·simp;omega
  ·split
   ·have:=matL_len l t.args m;omega
   ·simp
theorem matL_len:∀ (l l':List Ty) (m:TyM),(matL l l' m).2.length≤m.length+(nodesL l).length
 | p::ps,t::ts,m=>by
  have h1:=matT_len p t m
  have h2:=matL_len ps ts (matT p t m).2
  simp only [nodesL,List.length_append,Ty.cnt] at h1 ⊢
  rw [matL]
  split <;> simp <;> omega
 | [],_,m=>by simp [matL]
 | _::_,[],m=>by simp [matL]
end
theorem allV_two {a b:Ty} (h:allV [a,b]=0):a.valid=0∧b.valid=0:=by
 simp only [allV] at h
 split at h
 ·rename_i h1
  split at h
  ·rename_i h2;exact ⟨h1,h2⟩
  ·rename_i h2;exact absurd h h2
 ·rename_i h1;exact absurd h h1
def matchV (p t:Ty):TyM × Int:=if allV [p,t]=0 then (if (matT p t []).1 then (sortM (matT p t []).2,0) else ([],8)) else ([],allV [p,t])
set_option maxRecDepth 10000 in
theorem Match_c (p t:Ty) (H:AHeap):ACalls Tryz.prog 26 [p.enc,t.enc] H (.tuple [.slice ((matchV p t).1.map bindC) none,intV (matchV p t).2]) H:=by
 have hal:=all_c [p,t] (by simp)
 have hma:=match_c p t []
 simp only [List.map_cons,List.map_nil] at hal
 have e0:matchV p t=if allV [p,t]=0 then (if (matT p t []).1 then (sortM (matT p t []).2,0) else ([],8)) else ([],allV [p,t]):=rfl
 have hnd:=matT_nodup p t [] (by simp)
 have hml:=matT_len p t []
 generalize matchV p t=mv at e0 ⊢
 have hv2:allV [p,t]=0→p.valid=0∧t.valid=0:=allV_two
 have hpc:=fun h=>(valid_cnt (t:=p) h).2.1
 have htc:=fun h=>(valid_cnt (t:=t) h).2.1
 generalize hav:allV [p,t]=av at *
 generalize hmt:matT p t []=mt at *
 obtain ⟨np,lp⟩:=p
 obtain ⟨nt,lt⟩:=t
 refine acalls_walk (fun _=>.imm) [0,1,2,3,4,5,6,7,13,20] Tryz.mixed Tryz.func26 rfl rfl rfl (by decide) (fun hcl hlow=>?_)
 simp only [enc_mk] at hma ⊢;simp only [Ty.cells,cellsL_eq] at hal;refine awp_sr fun K hK=>?_;simp;apply hK;clear hK K;repeat with_reducible refine awp_assoc ?_
 refine awp_sr fun K hK=>?_;refine aOps_split 3 fun K hK=>?_;simp;apply hK;clear hK K;refine aOps_callW (hal _) (by first | rfl | simp) rfl rfl (by simp) ?_;simp;apply hK;clear hK K
 by_cases h0:av=0
 rotate_left
 ·rw [if_neg h0] at e0
  subst e0
  repeat with_reducible refine awp_assoc ?_
  refine awp_sr fun K hK=>?_;simp [h0];apply hK;clear hK K;refine awp_seq_k fun K hK=>?_;refine awp_condT rfl (by simp [h0]) ?_;refine awp_sr fun K hK=>?_;simp;apply hK;clear hK K;simp [reset_all hcl]
  exact Wk.tuple (by simp)
 rw [if_pos h0] at e0
 have hbd:=htc (hv2 h0).2
 have hbp:=hpc (hv2 h0).1
 repeat with_reducible refine awp_assoc ?_
 refine awp_sr fun K hK=>?_;simp [h0];apply hK;clear hK K;refine awp_seq_k fun K hK=>?_;refine awp_condF rfl (by simp [h0]) ?_;refine awp_skip ?_;apply hK;clear hK K;refine awp_sr fun K hK=>?_;simp;apply hK;clear hK K
 have hm2:=fun bs hg=>hma (nid H.next 3) (HL H bs) (by omega) (by intro x hx;simp at hx) hg
 repeat with_reducible refine awp_assoc ?_
 refine awp_sr fun K hK=>?_;refine aOps_split 3 fun K hK=>?_;simp;apply hK;clear hK K;refine aOps_call (hm2 _ (by simp [tyEs])) (by first | rfl | simp) rfl rfl rfl ?_;simp only [upd_nid rfl (show 3 < [ABlock.cells [strV np,AV.slice (lp.map Ty.cells) none],ABlock.cells [strV nt,AV.slice (lt.map Ty.cells) none],ABlock.tok 2 2 none,ABlock.amap [] 0].length from by simp),List.set]
 obtain ⟨mb,mm⟩:=mt
 simp;apply hK;clear hK K
 cases mb
 ·simp only [Bool.false_eq_true,if_false] at e0
  subst e0
  refine awp_seq_k fun K hK=>?_;refine awp_condT rfl (by simp) ?_;refine awp_sr fun K hK=>?_;simp;apply hK;clear hK K;simp [reset_all hcl]
  exact Wk.tuple (by simp)
 ·simp only [if_true] at e0
  subst e0
  have hb:=fun bs hg=>binds_c mm (by simp at hml;omega) hnd (nid H.next 3) mm.length (HL H bs) hg
  refine awp_seq_k fun K hK=>?_;refine awp_condF rfl (by simp) ?_;refine awp_skip ?_;apply hK;clear hK K;refine awp_sr fun K hK=>?_;refine aOps_split 1 fun K hK=>?_;simp;apply hK;clear hK K;refine aOps_call (hb _ (by simp)) (by first | rfl | simp) rfl rfl rfl ?_;simp;apply hK;clear hK K;simp [low_bind,reset_all hcl]
section
variable {α:Type}
def gEs (f:α→AV) (l:List (ByteArray × α)):List (Value × AV):=l.map fun p=>(.string p.1,f p.2)
def lookG (l:List (ByteArray × α)) (s:ByteArray):Option α:=(l.find? fun p=>decide (s=p.1)).map (·.2)
def putG (m:List (ByteArray × α)) (s:ByteArray) (t:α):List (ByteArray × α):=match m with
 | []=>[(s,t)]
 | p::m=>if s=p.1 then (s,t)::m else p::putG m s t
def delG (m:List (ByteArray × α)) (s:ByteArray):List (ByteArray × α):=match m with
 | []=>[]
 | p::m=>if s=p.1 then m else p::delG m s
theorem aLook_g (f:α→AV) (l:List (ByteArray × α)) (s:ByteArray):aLook (gEs f l) (.string s)=(lookG l s).map f:=by
 unfold aLook lookG gEs
 rw [List.find?_map]
 simp only [Function.comp_def,keq,Option.map_map]
theorem keys_g (f:α→AV) (l:List (ByteArray × α)):keysOk .string (gEs f l):=by
 intro e he
 obtain ⟨p,_,rfl⟩:=List.mem_map.1 he
 rfl
theorem low_g {f:α→AV} (hf:∀ n x,(f x).low n) (n:Nat) (l:List (ByteArray × α)):lowEs n (gEs f l):=by
 induction l with
 | nil=>trivial
 | cons p l ih=>exact ⟨hf n p.2,ih⟩
theorem aPut_g (f:α→AV) (m:List (ByteArray × α)) (s:ByteArray) (t:α):aPut (gEs f m) (.string s) (f t)=gEs f (putG m s t):=by
 induction m with
 | nil=>rfl
 | cons p m ih =>
  simp only [gEs,List.map_cons,aPut,putG,keq] at ih ⊢
  by_cases h:s=p.1
  ·simp [h]
  ·simp only [h,decide_false,Bool.false_eq_true,if_false,List.map_cons];rw [ih]
theorem aDel_g (f:α→AV) (m:List (ByteArray × α)) (s:ByteArray):aDel (gEs f m) (.string s)=gEs f (delG m s):=by
 induction m with
 | nil=>rfl
 | cons p m ih =>
  simp only [gEs,List.map_cons,aDel,delG,keq] at ih ⊢
  by_cases h:s=p.1
  ·simp [h]
  ·simp only [h,decide_false,Bool.false_eq_true,if_false,List.map_cons];rw [ih]
theorem aVer_g (f:α→AV) (m:List (ByteArray × α)) (s:ByteArray) (v:Nat) (b:Bool):aVer (gEs f m) (.string s) v b=if (lookG m s).isSome == b then v else v+1:=by
 simp only [aVer,aLook_g,Option.isSome_map]
theorem putG_new {m:List (ByteArray × α)} {s:ByteArray} {t:α} (h:lookG m s=none):putG m s t=m++[(s,t)]:=by
 induction m with
 | nil=>rfl
 | cons p m ih =>
  unfold lookG at h ih
  simp only [List.find?_cons] at h
  by_cases hs:s=p.1
  ·simp [hs] at h
  ·simp only [hs,decide_false] at h;simp only [putG,hs,if_false,List.cons_append];rw [ih h]
theorem lookG_mem {l:List (ByteArray × α)} {s:ByteArray} {t:α} (h:lookG l s=some t):(s,t)∈l:=by
 unfold lookG at h
 obtain ⟨p,hp,rfl⟩:=Option.map_eq_some_iff.1 h
 have h1:=List.find?_some hp
 simp only [decide_eq_true_eq] at h1
 rw [h1];exact List.mem_of_find?_eq_some hp
theorem lookG_cons (p:ByteArray × α) (m:List (ByteArray × α)) (s:ByteArray):lookG (p::m) s=if s=p.1 then some p.2 else lookG m s:=by
 unfold lookG
 rw [List.find?_cons]
 by_cases h:s=p.1 <;> simp [h]
theorem lookG_put (m:List (ByteArray × α)) (s:ByteArray) (t:α) (r:ByteArray):lookG (putG m s t) r=if r=s then some t else lookG m r:=by
 induction m with
 | nil=>simp [putG,lookG_cons]
 | cons p m ih =>
  by_cases h:s=p.1
  ·simp only [putG,if_pos h,lookG_cons]
   by_cases h2:r=s
   ·simp [h2]
   ·simp [h2,←h]
  ·simp only [putG,if_neg h,lookG_cons,ih]
   by_cases h2:r=p.1
   ·subst h2;simp [Ne.symm h]
   ·simp [h2]
theorem lookG_app (a b:List (ByteArray × α)) (s:ByteArray):lookG (a++b) s=(lookG a s).or (lookG b s):=by
 induction a with
 | nil=>simp [lookG]
 | cons p a ih =>
  simp only [List.cons_append,lookG_cons,ih]
  split <;> simp
end
def seS:ByteArray:=⟨#[59]⟩
def vN (i:Nat):ByteArray:=(⟨#[118]⟩:ByteArray)++decS i
def keyN (a b:Ty):ByteArray:=textT a 0++seS++textT b 0
mutual
def comT:Ty→Ty→List (ByteArray × ByteArray)→Ty × List (ByteArray × ByteArray)
 | .mk n l,.mk m k,met=>if n=m∧l.length=k.length∧headP smallB n=false then (.mk n (comL l k met).1,(comL l k met).2) else
  (match lookG met (keyN (.mk n l) (.mk m k)) with | some x=>(.mk x [],met) | none=>(.mk (vN met.length) [],met++[(keyN (.mk n l) (.mk m k),vN met.length)]))
def comL:List Ty→List Ty→List (ByteArray × ByteArray)→List Ty × List (ByteArray × ByteArray)
 | a::xs,b::ys,met=>((comT a b met).1::(comL xs ys (comT a b met).2).1,(comL xs ys (comT a b met).2).2)
 | _,_,met=>([],met)
end
theorem comL_append (a b c d:List Ty) (h:a.length=c.length) (m:List (ByteArray × ByteArray)):comL (a++b) (c++d) m=((comL a c m).1++(comL b d (comL a c m).2).1,(comL b d (comL a c m).2).2):=by
 induction a generalizing c m with
 | nil=>cases c with
  | nil=>simp [comL]
  | cons=>simp at h
 | cons p ps ih=>cases c with
  | nil=>simp at h
  | cons t ts =>
   simp only [List.cons_append,comL]
   rw [ih ts (by simpa using h)]
theorem comL_take {l l':List Ty} {k:Nat} {x y:Ty} (hl:l.length=l'.length) (hx:l[k]?=some x) (hy:l'[k]?=some y) (m:List (ByteArray × ByteArray)) :
  comL (l.take (k+1)) (l'.take (k+1)) m=((comL (l.take k) (l'.take k) m).1++[(comT x y (comL (l.take k) (l'.take k) m).2).1],(comT x y (comL (l.take k) (l'.take k) m).2).2):=by
 rw [take_one hx,take_one hy,comL_append _ _ _ _ (by simp [hl])]
 simp only [comL]
mutual
theorem comT_len:∀ (a b:Ty) (m:List (ByteArray × ByteArray)),(comT a b m).2.length≤m.length+a.cnt
 | .mk n l,.mk n' l',m=>by
  have hc:(Ty.mk n l).cnt=(nodesL l).length+1:=by simp [Ty.cnt,Ty.nodes]
  rw [comT]
  split
  ·have:=comL_len l l' m;simp only;omega
  ·split
   ·simp
   ·simp;omega
theorem comL_len:∀ (a b:List Ty) (m:List (ByteArray × ByteArray)),(comL a b m).2.length≤m.length+(nodesL a).length
 | a::xs,b::ys,m=>by
  have h1:=comT_len a b m
  have h2:=comL_len xs ys (comT a b m).2
  simp only [comL,nodesL,List.length_append,Ty.cnt] at h1 ⊢
  omega
 | [],_,m=>by simp [comL]
 | _::_,[],m=>by simp [comL]
end
theorem comL_length:∀ (a b:List Ty) (m:List (ByteArray × ByteArray)),a.length=b.length→(comL a b m).1.length=a.length
 | a::xs,b::ys,m,h=>by simp only [comL,List.length_cons];rw [comL_length xs ys _ (by simpa using h)]
 | [],_,m,_=>by simp [comL]
 | _::_,[],m,h=>by simp at h
theorem low_strV (n:Nat) (x:ByteArray):(strV x).low n:=trivial
theorem low_gs (n:Nat) (l:List (ByteArray × ByteArray)):lowEs n (gEs strV l):=low_g low_strV n l
set_option maxRecDepth 10000 in
theorem common1_c (xi mm yi:Nat) (hne:xi≠mm∧yi≠mm):∀ (a b:Ty) (met:List (ByteArray × ByteArray)) (H:AHeap),a.wt < 1125899906842624→b.wt < 1125899906842624→met.length+a.cnt < 4294967296 →
  H.get xi=some (.cells [.map mm])→H.get mm=some (.amap (gEs strV met) met.length)→H.get yi=some (.cells [.fn 74 [.ref xi 0,.ref yi 0]]) →
  ACalls Tryz.prog 74 [a.enc,b.enc,.ref xi 0,.ref yi 0] H (comT a b met).1.enc (H.upd mm (.amap (gEs strV (comT a b met).2) (comT a b met).2.length)):=by
 intro a
 induction a using Ty.ind with
 | h n l ih =>
 intro b met H haw hbw hcn hx hm hy
 obtain ⟨n',l'⟩:=b
 have hcnt:(Ty.mk n l).cnt=(nodesL l).length+1:=by simp [Ty.cnt,Ty.nodes]
 have hll:=nodesL_len l
 have hlw:l.length≤wtL l:=wtL_len l
 have haw0:=haw
 have hta:=fun H=>text_c (.mk n l) 0 (by omega) (by omega) H
 have htb:=fun H=>text_c (.mk n' l') 0 (by omega) (by omega) H
 have hsa:=text_size (.mk n l) 0
 have hsb:=text_size (.mk n' l') 0
 simp only [enc_mk] at hta htb
 refine acalls_walk (fun d=>if d=56 then .nilv 2 else .imm) [0,1,2,3,4,5,6,7,9,10,11,29,43,59,60,61] Tryz.mixed Tryz.func74 rfl rfl rfl (by decide) (fun hcl hlow=>?_)
 simp only [Ty.enc,Ty.cells]
 have hxl:xi < H.next:=(hcl _ _ hx).1
 have hml:mm < H.next:=(hcl _ _ hm).1
 have hyl:yi < H.next:=(hcl _ _ hy).1
 have gx:∀ bs,(HL H bs).get xi=some (.cells [.map mm]):=fun bs=>by rw [get_lt hxl];exact hx
 have gm:∀ bs,(HL H bs).get mm=some (.amap (gEs strV met) met.length):=fun bs=>by rw [get_lt hml];exact hm
 have hcu:∀ m' v,(H.upd mm (.amap (gEs strV m') v)).Closed:=fun m' v=>closed_upd hcl hml (low_gs _ _)
 refine awp_sr fun K hK=>?_;simp;apply hK;clear hK K;repeat with_reducible refine awp_assoc ?_
 refine awp_sr fun K hK=>?_
 by_cases hc:n=n'∧l.length=l'.length∧headP smallB n=false
 ·have e:comT (.mk n l) (.mk n' l') met=(.mk n (comL l l' met).1,(comL l l' met).2):=by rw [comT,if_pos hc]
  obtain ⟨rfl,hlen,hv⟩:=hc
  have hv:(Ty.mk n l).isVar=false:=hv
  refine aOps_split 6 fun K hK=>?_;simp;apply hK;clear hK K;refine aOps_split 8 fun K hK=>?_;simp [hlen];apply hK;clear hK K;refine aOps_split 2 fun K hK=>?_;simp;apply hK;clear hK K
  have hc:=isVar_c (.mk n l)
  simp only [Ty.enc,Ty.cells,cellsL_eq] at hc;refine aOps_call (hc _) (by first | rfl | simp) rfl rfl rfl ?_
  clear hc
  simp;apply hK;clear hK K
  rw [e]
  clear e
  refine awp_seq_k fun K hK=>?_;refine awp_condF rfl (by simp [hv]) ?_;refine awp_skip ?_;apply hK;clear hK K;refine awp_sr fun K hK=>?_;simp;apply hK;clear hK K;repeat with_reducible refine awp_assoc ?_
  refine awp_sr fun K hK=>?_;simp;apply hK;clear hK K;refine awp_seq_k fun K hK=>?_;refine awp_block ?_
  refine awp_up l.length (fun k=>Env.ofL [(2,.ref xi 0),(3,.ref yi 0),(4,.ref (nid H.next 0) 0),(5,.ref (nid H.next 1) 0),(6,.ref (nid H.next 2) 0),(10,.ref (nid H.next 4) 0),(59,intV l.length),(60,intV k)])
   (fun k=>HL (H.upd mm (.amap (gEs strV (comL (l.take k) (l'.take k) met).2) (comL (l.take k) (l'.take k) met).2.length))
    [.cells [strV n,.slice (l.map Ty.cells) none],.cells [strV n,.slice (l'.map Ty.cells) none],.cells [strV ByteArray.empty,.v (.slice none 0 0)],.tok k 2 none,.cells [strV n,.slice ((comL (l.take k) (l'.take k) met).1.map Ty.cells) (some (nid H.next 3))]])
   (fun k=>True) ?_ trivial (fun k hk _=>?_) (fun _=>?_)
  ·simp only [List.take_zero,comL]
   rw [upd_same hm]
   refine weak_HL hcl rfl (by simp) (by simp [lt_nid hxl,lt_nid hyl])
  ·obtain ⟨x,hx2⟩:∃ x,l[k]?=some x:=⟨_,List.getElem?_eq_getElem hk⟩
   obtain ⟨y,hy2⟩:∃ y,l'[k]?=some y:=⟨_,List.getElem?_eq_getElem (by omega)⟩
   have hxw:=wtL_mem (List.mem_of_getElem? hx2)
   have hyw:=wtL_mem (List.mem_of_getElem? hy2)
   simp only [Ty.wt] at haw hbw
   have e1:=comL_take hlen hx2 hy2 met
   have hml1:=comL_len (l.take k) (l'.take k) met
   have hol:=comL_length (l.take k) (l'.take k) met (by simp [hlen])
   have hkl:(l.take k).length=k:=by simp;omega
   have hcl3:(nodesL (l.take k)).length+x.cnt≤(nodesL l).length:=by
    have h1:=congrArg List.length (nodesL_take hx2)
    have h2:nodesL l=nodesL (l.take (k+1))++nodesL (l.drop (k+1)):=by rw [←nodesL_append,List.take_append_drop]
    have h3:=congrArg List.length h2
    rw [List.length_append] at h1 h3;simp only [Ty.cnt];omega
   generalize hmk:comL (l.take k) (l'.take k) met=mk at *
   obtain ⟨ok,mk⟩:=mk
   simp only at e1 hml1 hol
   have gx':∀ b bs,(HL (H.upd mm b) bs).get xi=some (.cells [.map mm]):=fun b bs=>by rw [get_lt (by exact hxl),get_upd_ne hne.1];exact hx
   have gm':∀ b bs,(HL (H.upd mm b) bs).get mm=some b:=fun b bs=>by rw [get_lt (by exact hml)];exact get_upd_self
   have gy':∀ b bs,(HL (H.upd mm b) bs).get yi=some (.cells [.fn 74 [.ref xi 0,.ref yi 0]]):=fun b bs=>by rw [get_lt (by exact hyl),get_upd_ne hne.2];exact hy
   have hc:=fun bs=>ih x (List.mem_of_getElem? hx2) y mk (HL (H.upd mm (.amap (gEs strV mk) mk.length)) bs) (by omega) (by omega) (by omega) (gx' _ _) (gm' _ _) (gy' _ _)
   refine awp_sr fun K hK=>?_;simp [hk];apply hK;clear hK K;refine awp_seq_k fun K hK=>?_;refine awp_condT rfl (by simp) ?_;refine awp_skip ?_;apply hK;clear hK K;refine awp_seq_k fun K hK=>?_;refine awp_block ?_;refine awp_sr fun K hK=>?_;simp;apply hK;clear hK K
   obtain ⟨nx,lx⟩:=x
   obtain ⟨ny,ly⟩:=y
   simp only [enc_mk] at hc
   refine awp_draw [13,14,15,17] [[],[],[0,1],[0,1,2],[0,1,2],[0,1,2,3,4],[0,1,2],[0,1,2],[0,1,2,3,4,5,6,7],[0,1,2,3,4,5,6,7],[0,1,2,3,4,5,6,7,8,9],[0,1,2,3,4,5,6,7],[0,1,2,3,4,5,6,7],[0,1,3,8],[0,1,3,4,5,8,9,10],[3,4,5,8,9,10],[],[]] (by kernel_rfl) ?_
   refine aLex_read rfl rfl rfl rfl fun K hK=>?_;simp
   refine hK _ _ _ ?_
   clear hK K;refine aLex_read rfl rfl rfl rfl fun K hK=>?_;simp
   refine hK _ _ _ ?_
   clear hK K;refine aLex_read rfl rfl rfl rfl fun K hK=>?_;simp [gy']
   refine hK _ _ _ ?_
   clear hK K;refine aLex_read rfl rfl rfl rfl fun K hK=>?_;simp
   refine hK _ _ _ ?_
   clear hK K;refine aLex_read rfl rfl rfl rfl fun K hK=>?_;simp
   refine hK _ _ _ ?_
   clear hK K;refine aLex_read rfl rfl rfl rfl fun K hK=>?_;simp
   refine hK _ _ _ ?_
   clear hK K;refine aLex_read rfl rfl rfl rfl fun K hK=>?_;simp [hx2,Ty.cells]
   refine hK _ _ _ ?_
   clear hK K;refine aLex_read rfl rfl rfl rfl fun K hK=>?_;simp
   refine hK _ _ _ ?_
   clear hK K;refine aLex_read rfl rfl rfl rfl fun K hK=>?_;simp
   refine hK _ _ _ ?_
   clear hK K;refine aLex_read rfl rfl rfl rfl fun K hK=>?_;simp
   refine hK _ _ _ ?_
   clear hK K;refine aLex_read rfl rfl rfl rfl fun K hK=>?_;simp
   refine hK _ _ _ ?_
   clear hK K;refine aLex_read rfl rfl rfl rfl fun K hK=>?_;simp [hy2,Ty.cells]
   refine hK _ _ _ ?_
   clear hK K;refine aLex_read rfl rfl rfl rfl fun K hK=>?_;simp
   refine hK _ _ _ ?_
   clear hK K
   have hc2:=hc [.cells [strV n,.slice (l.map Ty.cells) none],.cells [strV n,.slice (l'.map Ty.cells) none],.cells [strV ByteArray.empty,.v (.slice none 0 0)],.tok k 2 none,.cells [strV n,.slice (ok.map Ty.cells) (some (nid H.next 3))]]
   rw [upd_lt (by exact hml),upd_upd] at hc2
   generalize hcr:comT (.mk nx lx) (.mk ny ly) mk=cr at hc2 e1
   obtain ⟨⟨cn,cl⟩,cm⟩:=cr
   simp only [enc_mk] at hc2;refine aLex_calleA hc2 rfl rfl rfl rfl rfl (by simp [gy']) ?_;refine aLex_eff rfl rfl rfl rfl fun K hK=>?_;simp;apply hK;clear hK K;refine aLex_eff rfl rfl rfl rfl fun K hK=>?_;simp [hol,hkl]
   refine ⟨by omega,hK _ _ ?_⟩
   clear hK K;refine aLex_read rfl rfl rfl rfl fun K hK=>?_;simp
   refine hK _ _ _ ?_
   clear hK K;refine aLex_eff rfl rfl rfl rfl fun K hK=>?_;simp;apply hK;clear hK K;refine aLex_end ?_;simp;apply hK;clear hK K;refine awp_region ?_;simp [wrap_succ (show k < 4611686018427387904 by omega)]
   rw [e1]
   refine weak_HL (hcu _ _) rfl ?_ (by simp [lt_nid hxl,lt_nid hyl])
   simp [Ty.cells]
  ·refine awp_sr fun K hK=>?_;simp;apply hK;clear hK K;refine awp_seq_k fun K hK=>?_;refine awp_condF rfl (by simp) ?_;refine awp_exit ?_;simp;clear hK K;apply hK;clear hK K;refine awp_sr fun K hK=>?_;simp;apply hK;clear hK K
   have e2:l'.take l.length=l':=by rw [hlen,List.take_length]
   simp [e2,Ty.cells,reset_all (hcu _ _)]
   exact Wk.agg (by simp)
 ·have e:comT (.mk n l) (.mk n' l') met=(match lookG met (keyN (.mk n l) (.mk n' l')) with | some x=>(.mk x [],met) | none=>(.mk (vN met.length) [],met++[(keyN (.mk n l) (.mk n' l'),vN met.length)])):=by rw [comT,if_neg hc]
  suffices hk:K (Env.ofL [(0,.agg [strV n,.slice (l.map Ty.cells) none]),(1,.agg [strV n',.slice (l'.map Ty.cells) none]),(2,.ref xi 0),(3,.ref yi 0),(4,.ref (nid H.next 0) 0),(5,.ref (nid H.next 1) 0),(6,.ref (nid H.next 2) 0),(7,.undef),(9,.undef),(10,.undef),(11,.undef),(29,boolV true),(43,.undef),(59,.undef),(60,.undef),(61,.undef)])
    (HL H [.cells [strV n,.slice (l.map Ty.cells) none],.cells [strV n',.slice (l'.map Ty.cells) none],.cells [strV ByteArray.empty,.v (.slice none 0 0)]]) by
   by_cases hn:n=n'
   ·subst hn
    by_cases hlen:l.length=l'.length
    ·have hv:(Ty.mk n l).isVar=true:=by
      cases hv:(Ty.mk n l).isVar
      ·exact absurd ⟨rfl,hlen,hv⟩ hc
      ·rfl
     refine aOps_split 6 fun K hK=>?_;simp;apply hK;clear hK K;refine aOps_split 8 fun K hK=>?_;simp [hlen];apply hK;clear hK K;refine aOps_split 2 fun K hK=>?_;simp;apply hK;clear hK K
     have hc:=isVar_c (.mk n l)
     simp only [Ty.enc,Ty.cells,cellsL_eq] at hc;refine aOps_call (hc _) (by first | rfl | simp) rfl rfl rfl ?_
     clear hc
     simp [hv]
     exact hk
    ·refine aOps_split 6 fun K hK=>?_;simp;apply hK;clear hK K;refine aOps_split 8 fun K hK=>?_;simp [show ¬ (l.length:Int)=l'.length by omega];apply hK;clear hK K;simp
     exact hk
   ·refine aOps_split 6 fun K hK=>?_;simp [hn];apply hK;clear hK K;refine aOps_split 8 fun K hK=>?_;simp;apply hK;clear hK K;simp
    exact hk
  apply hK;clear hK K;refine awp_seq_k fun K hK=>?_;refine awp_condT rfl (by simp) ?_;refine awp_sdc [] [[],[],[],[0,1,2],[2],[],[]] (by kernel_rfl) (by rfl) fun K hK=>?_;refine aCalm_pre 1 (by rfl) fun K hK=>?_;simp;apply hK;clear hK K;refine aCalm_call0 (hta _) (by first | rfl | simp) rfl rfl rfl (by first | (simp;done) | rfl) ?_;refine aCalm_pre 2 (by rfl) fun K hK=>?_;simp
  refine ⟨by rw [show (⟨#[59]⟩:ByteArray).size=1 from rfl];omega,hK _ _ ?_⟩
  clear hK K;refine aCalm_call0 (htb _) (by first | rfl | simp) rfl rfl rfl (by first | (simp;done) | rfl) ?_;refine aCalm_pre 5 (by rfl) fun K hK=>?_;simp
  refine ⟨by rw [show (⟨#[59]⟩:ByteArray).size=1 from rfl];omega,hK _ _ ?_⟩
  clear hK K
  have ek:textT (.mk n l) 0++(⟨#[59]⟩:ByteArray)++textT (.mk n' l') 0=keyN (.mk n l) (.mk n' l'):=rfl
  generalize hkey:keyN (.mk n l) (.mk n' l')=key at *
  refine aCalm_end ?_;simp
  rw [ek]
  apply hK;clear hK K
  cases hk:lookG met key with
  | some x =>
   simp only [hk] at e
   rw [e]
   repeat with_reducible refine awp_assoc ?_
   refine awp_sr fun K hK=>?_;simp [aLookup,gx,gm,keys_g,keyOk,aLook_g,hk];apply hK;clear hK K;repeat with_reducible refine awp_assoc ?_
   refine awp_sr fun K hK=>?_;simp;apply hK;clear hK K;refine awp_seq_k fun K hK=>?_;refine awp_condF rfl (by simp) ?_;refine awp_skip ?_;apply hK;clear hK K;refine awp_sr fun K hK=>?_;simp [aLookup,gx,gm,keys_g,keyOk,aLook_g,hk];apply hK;clear hK K;simp [Ty.cells,upd_same hm,reset_all hcl]
   exact Wk.agg (by simp)
  | none =>
   simp only [hk] at e
   rw [e]
   have hdec:=fun H=>decimal_c met.length (by omega) H
   have hds:=decS_size met.length
   have e1:aPut (gEs strV met) (.string key) (strV (vN met.length))=gEs strV (met++[(key,vN met.length)]):=by rw [aPut_g,putG_new hk]
   have e2:aVer (gEs strV met) (.string key) met.length true=met.length+1:=by rw [aVer_g,hk];rfl
   have e3:lookG (met++[(key,vN met.length)]) key=some (vN met.length):=by rw [lookG_app,hk];simp [lookG]
   have gx':∀ b bs,(HL (H.upd mm b) bs).get xi=some (.cells [.map mm]):=fun b bs=>by rw [get_lt (by exact hxl),get_upd_ne hne.1];exact hx
   have gm':∀ b bs,(HL (H.upd mm b) bs).get mm=some b:=fun b bs=>by rw [get_lt (by exact hml)];exact get_upd_self
   have hlen2:(gEs strV met).length=met.length:=by simp [gEs]
   repeat with_reducible refine awp_assoc ?_
   refine awp_sr fun K hK=>?_;simp [aLookup,gx,gm,keys_g,keyOk,aLook_g,hk];apply hK;clear hK K;repeat with_reducible refine awp_assoc ?_
   refine awp_sr fun K hK=>?_;simp;apply hK;clear hK K;refine awp_seq_k fun K hK=>?_;refine awp_condT rfl (by simp) ?_
   refine awp_drawc [6] [[],[0],[0,1],[0,1],[0,1],[0,1],[]] (by kernel_rfl) (by rfl) ?_
   refine aCalm_pre 4 (by rfl) fun K hK=>?_;simp [gx,gm,hlen2];apply hK;clear hK K;refine aCalm_call0 (hdec _) (by first | rfl | simp) rfl rfl rfl (by first | (simp;done) | rfl) ?_;refine aCalm_pre 2 (by rfl) fun K2 hK2=>?_
   have e4:(⟨#[118]⟩:ByteArray)++decS met.length=vN met.length:=rfl
   simp [aMapUpdate,gm,keys_g,keyOk,upd_lt hml,e4,e1,e2]
   refine ⟨by rw [show (⟨#[118]⟩:ByteArray).size=1 from rfl];omega,hK2 _ _ ?_⟩
   clear hK2 K2
   refine aCalm_end ?_;simp;apply hK;clear hK K;refine awp_sr fun K hK=>?_;simp [aLookup,gx',gm',keys_g,keyOk,aLook_g,e3];apply hK;clear hK K;simp [Ty.cells,reset_all (hcu _ _)]
   exact Wk.agg (by simp)
end Go.Proofs.YtgeehnbbhnpimaaGreat
namespace Go.Proofs.YtgeehnbbhnpimaaGreat
open Go Go.Abs Go.Proofs
set_option maxRecDepth 20000
attribute [local simp] aOps wantedA aStep aop aLoad aStore aBin aUn aFieldAddr aField aIndexAddr aIndex aLen aBuild aFill aAlloc aAppend aBuildSlice litRows newRows isMut isOwn isNilS nilsW bytesR tokW tokAV tokL ret readC splice aeval isLit isLate AV.celled AV.one AV.ofValue Value.oneCell' Value.cells intOp strOp get_nid upd_nid awp aEnd aResults aResult Det unord isCall isNext
attribute [local simp] low_take low_strs low_comp low_tcomp wkEs_refl' WkBs WkEnv WkB WkL WkE WkO ABlock.low lowO lowL lowR AV.low cellsL_eq Ty.low low_map Ty.cells_length Ty.cells_one
attribute [local simp] low_bind
mutual
theorem comT_cnt:∀ (a b:Ty) (m:List (ByteArray × ByteArray)),(comT a b m).1.cnt≤a.cnt
 | .mk n l,.mk n' l',m=>by
  have hc:∀ n l,(Ty.mk n l).cnt=(nodesL l).length+1:=fun n l=>by simp [Ty.cnt,Ty.nodes]
  rw [comT]
  split
  ·have:=comL_cnt l l' m;simp only [hc];omega
  ·split <;> simp [hc,nodesL]
theorem comL_cnt:∀ (a b:List Ty) (m:List (ByteArray × ByteArray)),(nodesL (comL a b m).1).length≤(nodesL a).length
 | a::xs,b::ys,m=>by
  have h1:=comT_cnt a b m
  have h2:=comL_cnt xs ys (comT a b m).2
  simp only [comL,nodesL,List.length_append,Ty.cnt] at h1 ⊢
  omega
 | [],_,m=>by simp [comL]
 | _::_,[],m=>by simp [comL,nodesL]
end
def commonV (a b:Ty):Ty × Int:=if allV [a,b]=0 then (putT (renM (namesL [(comT a b []).1])) (comT a b []).1,0) else (zeroTy,allV [a,b])
mutual
theorem wt_le:∀ t:Ty,t.wt≤8 * t.cnt+(t.nodes.map fun x=>x.name.size).sum
 | .mk n l=>by
  have:=wtL_le l
  simp only [Ty.wt,Ty.cnt,Ty.nodes,List.length_cons,List.map_cons,List.sum_cons,Ty.name] at this ⊢
  omega
theorem wtL_le:∀ l:List Ty,wtL l≤8 * (nodesL l).length+((nodesL l).map fun x=>x.name.size).sum
 | []=>by simp [wtL]
 | t::ts=>by
  have h1:=wt_le t
  have h2:=wtL_le ts
  simp only [wtL,nodesL,List.length_append,List.map_append,List.sum_append,Ty.cnt] at h1 ⊢
  omega
end
theorem node_size {t:Ty} (h:t.node=true):t.name.size≤16:=by
 unfold Ty.node at h
 split at h
 ·rename_i h1;rw [h1];decide
 ·split at h
  ·simp only [smallN,runB,Bool.and_eq_true,decide_eq_true_eq] at h;omega
  ·simp only [greatN,runB,Bool.and_eq_true,decide_eq_true_eq] at h;omega
theorem sum_le {l:List Nat} {b:Nat} (h:∀ x∈l,x≤b):l.sum≤b * l.length:=by
 induction l with
 | nil=>simp
 | cons x l ih =>
  have h1:=h x (by simp)
  have h2:=ih fun y hy=>h y (by simp [hy])
  simp only [List.sum_cons,List.length_cons,Nat.mul_add];omega
theorem valid_wt {t:Ty} (h:t.valid=0):t.wt≤4800:=by
 obtain ⟨_,h2,h3⟩:=valid_cnt h
 have h1:=wt_le t
 have h4:(t.nodes.map fun x=>x.name.size).sum≤16 * (t.nodes.map fun x=>x.name.size).length:=sum_le (by
  intro x hx
  obtain ⟨y,hy,rfl⟩:=List.mem_map.1 hx
  exact node_size (List.all_eq_true.1 h3 y hy))
 simp only [List.length_map] at h4;simp only [Ty.cnt] at h1 h2
 omega
theorem renM_cnt {l:List ByteArray} {p:ByteArray × Ty} (h:p∈renM l):p.2.cnt=1:=by
 obtain ⟨q,_,rfl⟩:=List.mem_map.1 h
 simp [Ty.cnt,Ty.nodes,nodesL]
set_option maxRecDepth 10000 in
theorem Common_c (a b:Ty) (H:AHeap):ACalls Tryz.prog 33 [a.enc,b.enc] H (.tuple [(commonV a b).1.enc,intV (commonV a b).2]) H:=by
 have hal:=all_c [a,b] (by simp)
 simp only [List.map_cons,List.map_nil] at hal
 have e0:commonV a b=if allV [a,b]=0 then (putT (renM (namesL [(comT a b []).1])) (comT a b []).1,0) else (zeroTy,allV [a,b]):=rfl
 generalize commonV a b=cv at e0 ⊢
 have hv2:allV [a,b]=0→a.valid=0∧b.valid=0:=allV_two
 have hcc:=comT_cnt a b []
 have hco:=fun xi mm yi hne=>common1_c xi mm yi hne a b []
 generalize hav:allV [a,b]=av at *
 generalize hct:comT a b []=ct at *
 have haw:=fun h=>valid_wt (t:=a) h
 have hbw:=fun h=>valid_wt (t:=b) h
 have hac:=fun h=>(valid_cnt (t:=a) h).2.1
 obtain ⟨na,la⟩:=a
 obtain ⟨nb,lb⟩:=b
 refine acalls_walk (fun _=>.imm) [0,1,2,3,4,5,6,7,8,9,15] Tryz.mixed Tryz.func33 rfl rfl rfl (by decide) (fun hcl hlow=>?_)
 simp only [enc_mk] at hco ⊢;simp only [Ty.cells,cellsL_eq] at hal;refine awp_sr fun K hK=>?_;simp;apply hK;clear hK K;repeat with_reducible refine awp_assoc ?_
 refine awp_sr fun K hK=>?_;refine aOps_split 3 fun K hK=>?_;simp;apply hK;clear hK K;refine aOps_callW (hal _) (by first | rfl | simp) rfl rfl (by simp) ?_;simp;apply hK;clear hK K
 by_cases h0:av=0
 rotate_left
 ·rw [if_neg h0] at e0
  subst e0
  repeat with_reducible refine awp_assoc ?_
  refine awp_sr fun K hK=>?_;simp [h0];apply hK;clear hK K;refine awp_seq_k fun K hK=>?_;refine awp_condT rfl (by simp [h0]) ?_;refine awp_sr fun K hK=>?_;simp;apply hK;clear hK K;simp [zeroTy,enc_mk,reset_all hcl]
  exact Wk.tuple ⟨Wk.agg (by simp),.refl _,trivial⟩
 rw [if_pos h0] at e0
 have ha1:=haw (hv2 h0).1
 have hb1:=hbw (hv2 h0).2
 have hc1:=hac (hv2 h0).1
 repeat with_reducible refine awp_assoc ?_
 refine awp_sr fun K hK=>?_;simp [h0];apply hK;clear hK K;refine awp_seq_k fun K hK=>?_;refine awp_condF rfl (by simp [h0]) ?_;refine awp_skip ?_;apply hK;clear hK K;refine awp_sr fun K hK=>?_;simp;apply hK;clear hK K;refine awp_sr fun K hK=>?_;simp;apply hK;clear hK K;refine awp_sr fun K hK=>?_;simp;apply hK;clear hK K
 obtain ⟨⟨cn,cl⟩,cm⟩:=ct
 simp only [enc_mk] at hco
 have hc2:=hco (nid H.next 5) (nid H.next 4) (nid H.next 6) (by simp) (HL H [.cells [strV na,.slice (la.map Ty.cells) none],.cells [strV nb,.slice (lb.map Ty.cells) none],.cells [strV ByteArray.empty,.v (.slice none 0 0)],.tok 2 2 none,.amap [] 0,.cells [.map (nid H.next 4)],.cells [.fn 74 [.ref (nid H.next 5) 0,.ref (nid H.next 6) 0]]])
  (by omega) (by omega) (by simp;omega) (by simp) (by simp [gEs]) (by simp)
 rw [upd_nid rfl (by simp)] at hc2
 simp only [List.set] at hc2;refine awp_sr fun K hK=>?_;refine aOps_split 3 fun K hK=>?_;simp;apply hK;clear hK K;refine aOps_call (hc2) (by first | rfl | simp) rfl rfl (by first | (simp;done) | rfl) ?_;simp;apply hK;clear hK K
 have hnl:=names_len [.mk cn cl]
 have hrn:=renaming_c [.mk cn cl] (by simp only [nodesL,List.append_nil,Ty.cnt] at hcc hc1 ⊢;omega)
 simp only [List.map_cons,List.map_nil,Ty.cells,cellsL_eq] at hrn
 refine awp_sd [1,2,5] [[],[],[],[0,1,2],[],[],[]] (by kernel_rfl) fun K hK=>?_
 refine aLex_read rfl rfl rfl rfl fun K hK=>?_;simp
 refine hK _ _ _ ?_
 clear hK K;refine aLex_eff rfl rfl rfl rfl fun K hK=>?_;simp;apply hK;clear hK K;refine aLex_calleW (hrn _) rfl rfl rfl rfl (by simp) (by simp) ?_;refine aLex_read rfl rfl rfl rfl fun K hK=>?_;simp
 refine hK _ _ _ ?_
 clear hK K
 have hp:=fun bs hg=>put_c (renM (namesL [.mk cn cl])) (fun p hp=>by rw [renM_cnt hp];decide) (nid H.next 9) (namesL [.mk cn cl]).length (.mk cn cl) (by simp only [] at hcc;omega) (HL H bs) hg
 simp only [] at e0
 generalize hpt:putT (renM (namesL [.mk cn cl])) (.mk cn cl)=pt at hp e0
 obtain ⟨pn,pl⟩:=pt
 simp only [enc_mk] at hp;refine aLex_callW (hp _ (by simp)) rfl rfl rfl rfl (by simp) (by simp) ?_;refine aLex_eff rfl rfl rfl rfl fun K hK=>?_;simp;apply hK;clear hK K;refine aLex_read rfl rfl rfl rfl fun K hK=>?_;simp
 refine hK _ _ _ ?_
 clear hK K;refine aLex_end ?_;simp;apply hK;clear hK K
 subst e0
 simp [enc_mk,reset_all hcl]
structure Cl where
 ns:List ByteArray
 up:List (ByteArray × ByteArray)
 is:TyM
 met:List ByteArray
 iv:Nat
def rankL (ns:List ByteArray):List (ByteArray × Nat):=ns.zipIdx
def natV (n:Nat):AV:=intV n
theorem low_natV (n:Nat) (x:Nat):(natV x).low n:=trivial
theorem tyEs_g (l:TyM):tyEs l=gEs Ty.enc l:=rfl
theorem lookT_g (l:TyM) (s:ByteArray):lookT l s=lookG l s:=rfl
theorem low_gn (n:Nat) (l:List (ByteArray × Nat)):lowEs n (gEs natV l):=low_g low_natV n l
structure Ids where
 c:Nat
 r:Nat
 u:Nat
 i:Nat
 m:Nat
def Ids.L (I:Ids):List Nat:=[I.c,I.r,I.u,I.i,I.m]
def clB (I:Ids) (c:Cl):List (Nat × ABlock) :=
 [(I.c,.cells [.map I.r,.map I.u,.map I.i,.map I.m]),(I.r,.amap (gEs natV (rankL c.ns)) c.ns.length),(I.u,.amap (gEs strV c.up) c.ns.length),(I.i,.amap (tyEs c.is) c.iv),(I.m,.amap (metEs c.met) c.met.length)]
theorem clB_ids (I:Ids) (c:Cl):(clB I c).map (·.1)=I.L:=rfl
theorem clB_low {I:Ids} {n:Nat} (h:∀ x∈I.L,x < n) (c:Cl):∀ p∈clB I c,p.1 < n∧p.2.low n:=by
 simp only [Ids.L,List.mem_cons,List.not_mem_nil,or_false,forall_eq_or_imp,forall_eq] at h
 intro p hp
 simp only [clB,List.mem_cons,List.not_mem_nil,or_false] at hp
 rcases hp with rfl | rfl | rfl | rfl | rfl
 ·exact ⟨h.1,h.2.1,h.2.2.1,h.2.2.2.1,h.2.2.2.2,trivial⟩
 ·exact ⟨h.2.1,low_gn _ _⟩
 ·exact ⟨h.2.2.1,low_gs _ _⟩
 ·exact ⟨h.2.2.2.1,low_ty _ _⟩
 ·exact ⟨h.2.2.2.2,low_met _ _⟩
def GC (I:Ids) (H:AHeap) (c:Cl):AHeap:=puts H (clB I c)
section
variable {I:Ids} {H:AHeap} {c:Cl}
theorem GC_next:(GC I H c).next=H.next:=puts_next _ _
theorem GC_self (h:Holds H (clB I c)):GC I H c=H:=puts_self h
theorem GC_GC (hI:I.L.Nodup) (c c':Cl):GC I (GC I H c) c'=GC I H c':=puts_puts rfl hI
theorem GC_HL (h:∀ x∈I.L,x < H.next) {bs:List ABlock}:GC I (HL H bs) c=HL (GC I H c) bs:=puts_HL (fun p hp=>(clB_low h c p hp).1)
theorem GC_closed (hc:H.Closed) (h:∀ x∈I.L,x < H.next):(GC I H c).Closed:=closed_puts hc (clB_low h c)
theorem GC_get (hI:I.L.Nodup) (h:∀ x∈I.L,x < H.next) (bs:List ABlock) :
  (HL (GC I H c) bs).get I.c=some (.cells [.map I.r,.map I.u,.map I.i,.map I.m])∧(HL (GC I H c) bs).get I.r=some (.amap (gEs natV (rankL c.ns)) c.ns.length)∧(HL (GC I H c) bs).get I.u=some (.amap (gEs strV c.up) c.ns.length) ∧
   (HL (GC I H c) bs).get I.i=some (.amap (tyEs c.is) c.iv)∧(HL (GC I H c) bs).get I.m=some (.amap (metEs c.met) c.met.length):=by
 have h0:Holds (HL (GC I H c) bs) (clB I c):=by
  rw [←GC_HL h]
  exact puts_holds _ hI
 obtain ⟨h1,h2,h3,h4,h5,_⟩:=h0
 exact ⟨h1,h2,h3,h4,h5⟩
theorem upd_puts:∀ {l:List (Nat × ABlock)} {H:AHeap} {i:Nat} {b:ABlock},i∈l.map (·.1)→(l.map (·.1)).Nodup→(puts H l).upd i b=puts H (l.map fun p=>if p.1=i then (i,b) else p)
 | [],_,_,_,h,_=>by simp at h
 | (j,c)::l,H,i,b,h,hn=>by
  simp only [List.map_cons,List.nodup_cons] at hn;simp only [List.map_cons,puts]
  by_cases hj:j=i
  ·subst hj
   have hm:l.map (fun p=>if p.1=j then (j,b) else p)=l:=by
    refine (List.map_congr_left fun p hp=>?_).trans (List.map_id l)
    rw [if_neg];· rfl
    rintro e;exact hn.1 (e ▸ List.mem_map_of_mem hp)
   simp only [hm,if_true]
   rw [←puts_upd l hn.1,upd_upd]
  ·simp only [List.map_cons,List.mem_cons] at h
   rw [if_neg hj]
   rcases h with h | h
   ·exact absurd h.symm hj
   ·exact upd_puts h hn.2
theorem GC_upd_u (hI:I.L.Nodup) (h:∀ x∈I.L,x < H.next) (up:List (ByteArray × ByteArray)) (bs:List ABlock):(HL (GC I H c) bs).upd I.u (.amap (gEs strV up) c.ns.length)=HL (GC I H { c with up:=up }) bs:=by
 rw [upd_lt (by rw [GC_next];exact h _ (by simp [Ids.L]))]
 congr 1
 unfold GC
 rw [upd_puts (l:=clB I c) (by simp [clB]) (by rw [clB_ids];exact hI)]
 simp only [Ids.L,List.nodup_cons,List.mem_cons,List.not_mem_nil,or_false,not_or] at hI
 have a1:=hI.1.2.1;have a2:=hI.2.1.1;have a3:=hI.2.2.1.1;have a4:=hI.2.2.1.2
 simp only [clB,List.map_cons,List.map_nil,a1,a2,Ne.symm a3,Ne.symm a4,if_true,if_false]
theorem GC_upd_i (hI:I.L.Nodup) (h:∀ x∈I.L,x < H.next) (is:TyM) (iv:Nat) (bs:List ABlock):(HL (GC I H c) bs).upd I.i (.amap (tyEs is) iv)=HL (GC I H { c with is:=is,iv:=iv }) bs:=by
 rw [upd_lt (by rw [GC_next];exact h _ (by simp [Ids.L]))]
 congr 1
 unfold GC
 rw [upd_puts (l:=clB I c) (by simp [clB]) (by rw [clB_ids];exact hI)]
 simp only [Ids.L,List.nodup_cons,List.mem_cons,List.not_mem_nil,or_false,not_or] at hI
 have a1:=hI.1.2.2.1;have a2:=hI.2.1.2.1;have a3:=hI.2.2.1.1;have a4:=hI.2.2.2.1
 simp only [clB,List.map_cons,List.map_nil,a1,a2,a3,Ne.symm a4,if_true,if_false]
theorem GC_upd_m (hI:I.L.Nodup) (h:∀ x∈I.L,x < H.next) (met:List ByteArray) (bs:List ABlock):(HL (GC I H c) bs).upd I.m (.amap (metEs met) met.length)=HL (GC I H { c with met:=met }) bs:=by
 rw [upd_lt (by rw [GC_next];exact h _ (by simp [Ids.L]))]
 congr 1
 unfold GC
 rw [upd_puts (l:=clB I c) (by simp [clB]) (by rw [clB_ids];exact hI)]
 simp only [Ids.L,List.nodup_cons,List.mem_cons,List.not_mem_nil,or_false,not_or] at hI
 have a1:=hI.1.2.2.2;have a2:=hI.2.1.2.2;have a3:=hI.2.2.1.2;have a4:=hI.2.2.2.1
 simp only [clB,List.map_cons,List.map_nil,a1,a2,a3,a4,if_true,if_false]
end
def topF (up:List (ByteArray × ByteArray)):Nat→ByteArray→Option ByteArray
 | 0,_=>none
 | f+1,s=>match lookG up s with
  | some u=>if u=s then some s else topF up f u
  | none=>none
theorem topF_mono {up:List (ByteArray × ByteArray)}:∀ {f g:Nat} {s r:ByteArray},f≤g→topF up f s=some r→topF up g s=some r
 | 0,_,_,_,_,h=>by cases h
 | f+1,0,_,_,hg,_=>by omega
 | f+1,g+1,s,r,hg,h=>by
  simp only [topF] at h ⊢
  cases hl:lookG up s with
  | none=>rw [hl] at h;cases h
  | some u =>
   rw [hl] at h
   simp only at h ⊢
   split
   ·rename_i hs;rw [if_pos hs] at h;exact h
   ·rename_i hs;rw [if_neg hs] at h;exact topF_mono (by omega) h
set_option maxRecDepth 10000 in
theorem top_c (I:Ids) (hI:I.L.Nodup) (c:Cl) (s r:ByteArray) (f:Nat) (hf:topF c.up f s=some r) (H:AHeap) (hH:Holds H (clB I c)):ACalls Tryz.prog 71 [.ref I.c 0,strV s] H (strV r) H:=by
 have e0:GC I H c=H:=GC_self hH
 refine acalls_walk (fun _=>.imm) [0,1,4,12] Tryz.mixed Tryz.func71 rfl rfl rfl (by decide) (fun hcl hlow=>?_)
 have hlt:∀ x∈I.L,x < H.next:=by
  have:=holds_lt hcl hH
  intro x hx
  rw [←clB_ids I c] at hx
  obtain ⟨p,hp,rfl⟩:=List.mem_map.1 hx
  exact this p hp
 have hg:=fun bs=>(GC_get (H:=H) (c:=c) hI hlt bs)
 rw [e0] at hg
 have g1:=fun bs=>(hg bs).1
 have g3:=fun bs=>(hg bs).2.2.1
 have hil:I.c < H.next:=hlt _ (by simp [Ids.L])
 refine awp_sr fun K hK=>?_;simp;apply hK;clear hK K;refine awp_seq_k fun K hK=>?_;refine awp_block ?_
 refine awp_loop (fun n env H'=>∃ s,topF c.up n s=some r∧env=Env.ofL [(0,.ref I.c 0),(1,strV s)]∧H'=HL H []) f (weak_HL hcl rfl (by simp) (by simp [lt_nid hil])) ⟨s,hf,rfl,rfl⟩ ?_
 rintro n env H' ⟨s,hs,rfl,rfl⟩
 cases n with
 | zero=>cases hs
 | succ n =>
 simp only [topF] at hs
 cases hl:lookG c.up s with
 | none=>rw [hl] at hs;cases hs
 | some u =>
 rw [hl] at hs
 simp only at hs
 have h2:aLook (gEs strV c.up) (.string s)=some (strV u):=by rw [aLook_g,hl];rfl
 by_cases h:u=s
 ·rw [if_pos h] at hs
  obtain rfl:s=r:=by simpa using hs
  repeat with_reducible refine awp_assoc ?_
  refine awp_sr fun K hK=>?_;simp [aLookup,g1,g3,keys_g,keyOk,h2,h];apply hK;clear hK K;refine awp_seq_k fun K hK=>?_;refine awp_condF rfl (by simp) ?_;refine awp_exit ?_;simp;clear hK K;apply hK;clear hK K;refine awp_sr fun K hK=>?_;simp;apply hK;clear hK K;simp [reset_all hcl]
 ·rw [if_neg h] at hs
  repeat with_reducible refine awp_assoc ?_
  refine awp_sr fun K hK=>?_;simp [aLookup,g1,g3,keys_g,keyOk,h2,h];apply hK;clear hK K;refine awp_seq_k fun K hK=>?_;refine awp_condT rfl (by simp) ?_;refine awp_skip ?_;apply hK;clear hK K;refine awp_block ?_;refine awp_region ?_;simp [aLookup,g1,g3,keys_g,keyOk,h2]
  exact ⟨n,_,_,weak_HL hcl rfl (by simp) (by simp [lt_nid hil]),by omega,u,hs,rfl,rfl⟩
end Go.Proofs.YtgeehnbbhnpimaaGreat
namespace Go.Proofs.YtgeehnbbhnpimaaGreat
open Go Go.Abs Go.Proofs
set_option maxRecDepth 20000
attribute [local simp] aOps wantedA aStep aop aLoad aStore aBin aUn aFieldAddr aField aIndexAddr aIndex aLen aBuild aFill aAlloc aAppend aBuildSlice litRows newRows isMut isOwn isNilS nilsW bytesR tokW tokAV tokL ret readC splice aeval isLit isLate AV.celled AV.one AV.ofValue Value.oneCell' Value.cells intOp strOp get_nid upd_nid awp aEnd aResults aResult Det unord isCall isNext
attribute [local simp] low_take low_strs low_comp low_tcomp wkEs_refl' WkBs WkEnv WkB WkL WkE WkO ABlock.low lowO lowL lowR AV.low cellsL_eq Ty.low low_map Ty.cells_length Ty.cells_one
attribute [local simp] low_bind
def upL (ns:List ByteArray):List (ByteArray × ByteArray):=ns.map fun s=>(s,s)
def cl0 (ns:List ByteArray):Cl:=⟨ns,upL ns,[],[],0⟩
theorem rankL_take {l:List ByteArray} {k:Nat} {s:ByteArray} (h:l[k]?=some s):rankL (l.take (k+1))=rankL (l.take k)++[(s,k)]:=by
 unfold rankL
 have hk:(l.take k).length=k:=by
  have:k < l.length:=by
   rcases Nat.lt_or_ge k l.length with h' | h'
   ·exact h'
   ·simp [List.getElem?_eq_none h'] at h
  simp;omega
 rw [take_one h,List.zipIdx_append,hk]
 simp
theorem rankL_keys (l:List ByteArray):(rankL l).map (·.1)=l:=by
 unfold rankL;simp
theorem lookG_none {α:Type} {m:List (ByteArray × α)} {s:ByteArray} (h:s ∉ m.map (·.1)):lookG m s=none:=by
 cases hl:lookG m s with
 | none=>rfl
 | some t=>exact absurd (List.mem_map_of_mem (lookG_mem hl)) h
def newB (n:Nat) (ns:List ByteArray):List ABlock :=
 [.amap (gEs natV (rankL ns)) ns.length,.amap (gEs strV (upL ns)) ns.length,.amap (tyEs []) 0,.amap (metEs []) 0,.cells [.map (nid n 0),.map (nid n 1),.map (nid n 2),.map (nid n 3)]]
set_option maxRecDepth 10000 in
theorem newCells_c (l:List Ty) (hl:(nodesL l).length < 1099511627776) (H:AHeap) :
  ACalls Tryz.prog 67 [.slice (l.map Ty.cells) none] H (.ref (nid H.next 4) 0) (HL H (newB H.next (namesL l))):=by
 have hnl:=names_len l
 have hll:=nodesL_len l
 refine acalls_walk (fun _=>.imm) [0,2,3,4,5,13,14,15,16] Tryz.mixed Tryz.func67 rfl rfl rfl (by decide) (fun hcl hlow=>?_)
 refine awp_sr fun K hK=>?_;simp;apply hK;clear hK K;refine awp_sr fun K hK=>?_;simp;apply hK;clear hK K;repeat with_reducible refine awp_assoc ?_
 refine awp_sr fun K hK=>?_;refine aOps_split 1 fun K hK=>?_;simp;apply hK;clear hK K;refine aOps_call (names_c l (by omega) _) (by first | rfl | simp) rfl rfl (by first | (simp;done) | rfl) ?_;simp;apply hK;clear hK K
 generalize hns:namesL l=ns at hnl ⊢
 have hnd:ns.Nodup:=by rw [←hns];exact names_nodup l
 refine awp_seq_k fun K hK=>?_;refine awp_block ?_
 refine awp_up ns.length (fun k=>Env.ofL [(3,.ref (nid H.next 4) 0),(13,.slice (ns.map fun s=>[strV s]) none),(14,intV ns.length),(15,intV k)]) (fun k=>HL H (newB H.next (ns.take k))) (fun k=>True) (weak_HL hcl rfl ?_ ?_) trivial (fun k hk _=>?_) (fun _=>?_)
 ·simp [newB,rankL,upL,gEs,tyEs,metEs,lowEs,WkEs]
 ·simp [newB]
 ·obtain ⟨s,hs⟩:∃ s,ns[k]?=some s:=⟨_,List.getElem?_eq_getElem hk⟩
  have hnm:s ∉ ns.take k:=by
   intro hm
   have h2:=hnd
   rw [←List.take_append_drop k ns,List.nodup_append] at h2
   exact h2.2.2 s hm s (by rw [List.drop_eq_getElem_cons hk];rw [List.getElem?_eq_getElem hk] at hs;simp at hs;simp [hs]) rfl
  have hn1:lookG (rankL (ns.take k)) s=none:=lookG_none (by rw [rankL_keys];exact hnm)
  have hn2:lookG (upL (ns.take k)) s=none:=lookG_none (by unfold upL;rw [List.map_map];simpa [Function.comp_def] using hnm)
  have e1:aPut (gEs natV (rankL (ns.take k))) (.string s) (intV k)=gEs natV (rankL (ns.take (k+1))):=by rw [show intV k=natV k from rfl,aPut_g,putG_new hn1,rankL_take hs]
  have e2:aPut (gEs strV (upL (ns.take k))) (.string s) (strV s)=gEs strV (upL (ns.take (k+1))):=by rw [aPut_g,putG_new hn2,take_one hs];simp [upL]
  have e3:aVer (gEs natV (rankL (ns.take k))) (.string s) k true=k+1:=by rw [aVer_g,hn1];rfl
  have e4:aVer (gEs strV (upL (ns.take k))) (.string s) k true=k+1:=by rw [aVer_g,hn2];rfl
  have hkl:min k ns.length=k:=by omega
  have hkl2:min (k+1) ns.length=k+1:=by omega
  refine awp_sr fun K hK=>?_;simp [hk];apply hK;clear hK K;refine awp_seq_k fun K hK=>?_;refine awp_condT rfl (by simp) ?_;refine awp_skip ?_;apply hK;clear hK K;refine awp_seq_k fun K hK=>?_;refine awp_block ?_;refine awp_sr fun K hK=>?_;simp [hs];apply hK;clear hK K;refine awp_sr fun K hK=>?_;simp [newB,aMapUpdate,keys_g,keyOk,e1,e3,hkl];apply hK;clear hK K;refine awp_region ?_;simp [aMapUpdate,keys_g,keyOk,e2,e4];apply hK;clear hK K;refine awp_region ?_;simp [wrap_succ (show k < 4611686018427387904 by omega),newB,hkl2]
  refine weak_HL hcl rfl ?_ (by simp)
  simp [low_gn,low_gs,tyEs,metEs,lowEs]
 ·refine awp_sr fun K hK=>?_;simp;apply hK;clear hK K;refine awp_seq_k fun K hK=>?_;refine awp_condF rfl (by simp) ?_;refine awp_exit ?_;simp;clear hK K;apply hK;clear hK K;refine awp_sr fun K hK=>?_;simp;apply hK;clear hK K;simp [newB]
  refine ⟨reset_HL hcl ?_,le_nid⟩
  simp [low_gn,low_gs,tyEs,metEs,lowEs]
end Go.Proofs.YtgeehnbbhnpimaaGreat
