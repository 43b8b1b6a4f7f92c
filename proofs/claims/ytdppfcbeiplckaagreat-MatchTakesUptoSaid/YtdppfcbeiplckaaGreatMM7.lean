/- The program: names; how deep and how large patterns are. -/
import Derived.Test.YtdppfcbeiplckaaGreatMM1
import Derived.Test.YtdppfcbeiplckaaGreatMD1
set_option linter.unusedVariables false
set_option linter.unusedSimpArgs false
namespace Go.Proofs.YtdppfcbeiplckaaGreat
open Go Go.Abs Go.Proofs
set_option maxRecDepth 20000
attribute [local simp] aOps wantedA aStep aop aLoad aStore aBin aUn aFieldAddr aField aIndexAddr aIndex aLen aBuild aFill aAlloc aAppend aAppendOwn aMin aMax aBuildSlice litRows newRows isMut isOwn isNilS nilsW bytesR tokW tokAV tokL ret readC splice aeval isLit isLate isCut aCut AV.celled AV.one AV.ofValue Value.oneCell' Value.cells intOp strOp get_nid upd_nid awp aEnd aResults aResult Det unord isCall isNext
attribute [local simp] low_take low_strs low_comp low_tcomp wkEs_refl' WkBs WkEnv WkB WkL WkE WkO ABlock.low lowO lowL lowR AV.low cellsL_eq Ty.low low_map Ty.cells_length Ty.cells_one
attribute [local simp] ConD.cells Dat.cells PredD.cells SigD.cells ClsD.cells InstD.cells DeclsD.cells DeclsD.enc Dat.enc low_datL low_conL low_predL low_sigL low_clsL low_instL
attribute [local simp] cellsNd_eq low_nds Nd.cells_length Nd.cells_one cellsDT_eq low_dts DT.kcells_length DT.kcells_one low_ints low_rows low_pls
theorem mName_c (s:ByteArray) (lo hi:Int) (H:AHeap):ACalls Tryz.prog 153 [strV s,.v (.int .u8 lo),.v (.int .u8 hi)] H (boolV (nameB lo hi s)) H:=by
 refine acalls_walk (fun _=>.imm) [0,1,2,6,7,8,28,32,64] Tryz.mixed Tryz.func153 rfl rfl rfl (by decide) (fun hcl hlow=>?_)
 repeat with_reducible refine awp_assoc ?_
 refine awp_sr fun K hK=>?_
 simp
 refine hK _ _ ?_
 clear hK K
 repeat with_reducible refine awp_assoc ?_
 refine awp_sr fun K hK=>?_
 refine aOps_split 4 fun K hK=>?_
 simp
 refine hK _ _ ?_
 clear hK K
 by_cases h1:(s.size:Int) < 1
 ·have e:nameB lo hi s=false:=by
   have:s.data.toList[0]?=none:=by rw [List.getElem?_eq_none_iff,←ba_size];omega
   unfold nameB headP;rw [this];rfl
  refine aOps_split 8 fun K hK=>?_
  simp [h1]
  refine hK _ _ ?_
  clear hK K
  simp [h1]
  refine hK _ _ ?_
  clear hK K
  repeat with_reducible refine awp_assoc ?_
  refine awp_seq_k fun K hK=>?_
  refine awp_condT rfl (by simp) ?_
  repeat with_reducible refine awp_assoc ?_
  refine awp_sr fun K hK=>?_
  simp
  refine hK _ _ ?_
  clear hK K
  simp [e,reset_all hcl]
 refine aOps_split 4 fun K hK=>?_
 simp [h1]
 refine hK _ _ ?_
 clear hK K
 by_cases h2:(16:Int) < s.size
 ·have e:nameB lo hi s=false:=by
   have:¬ s.size≤16:=by omega
   simp [nameB,tlB,this]
  refine aOps_split 6 fun K hK=>?_
  simp [h1,h2]
  refine hK _ _ ?_
  clear hK K
  simp [h1,h2]
  refine hK _ _ ?_
  clear hK K
  repeat with_reducible refine awp_assoc ?_
  refine awp_seq_k fun K hK=>?_
  refine awp_condT rfl (by simp) ?_
  repeat with_reducible refine awp_assoc ?_
  refine awp_sr fun K hK=>?_
  simp
  refine hK _ _ ?_
  clear hK K
  simp [e,reset_all hcl]
 obtain ⟨c,hc⟩:∃ c,s.data.toList[0]?=some c:=head_of (by omega)
 have eh:headP (fun c=>decide (lo≤(c.toNat:Int)) && decide ((c.toNat:Int)≤hi)) s=(decide (lo≤(c.toNat:Int)) && decide ((c.toNat:Int)≤hi)):=by unfold headP;rw [hc]
 refine aOps_split 5 fun K hK=>?_
 simp [h1,h2,hc]
 refine hK _ _ ?_
 clear hK K
 by_cases h3:(c.toNat:Int) < lo
 ·have e:nameB lo hi s=false:=by
   have:¬ lo≤(c.toNat:Int):=by omega
   simp [nameB,eh,this]
  simp [h3]
  refine hK _ _ ?_
  clear hK K
  repeat with_reducible refine awp_assoc ?_
  refine awp_seq_k fun K hK=>?_
  refine awp_condT rfl (by simp) ?_
  repeat with_reducible refine awp_assoc ?_
  refine awp_sr fun K hK=>?_
  simp
  refine hK _ _ ?_
  clear hK K
  simp [e,reset_all hcl]
 refine aOps_split 6 fun K hK=>?_
 simp [h3,hc]
 refine hK _ _ ?_
 clear hK K
 by_cases h4:hi < (c.toNat:Int)
 ·have e:nameB lo hi s=false:=by
   have:¬ (c.toNat:Int)≤hi:=by omega
   simp [nameB,eh,this]
  simp [h3,h4]
  refine hK _ _ ?_
  clear hK K
  repeat with_reducible refine awp_assoc ?_
  refine awp_seq_k fun K hK=>?_
  refine awp_condT rfl (by simp) ?_
  repeat with_reducible refine awp_assoc ?_
  refine awp_sr fun K hK=>?_
  simp
  refine hK _ _ ?_
  clear hK K
  simp [e,reset_all hcl]
 have e:nameB lo hi s=tlB s:=by
  have a1:lo≤(c.toNat:Int):=by omega
  have a2:(c.toNat:Int)≤hi:=by omega
  simp [nameB,eh,a1,a2]
 simp [h3,h4]
 refine hK _ _ ?_
 clear hK K
 repeat with_reducible refine awp_assoc ?_
 refine awp_seq_k fun K hK=>?_
 refine awp_condF rfl (by simp) ?_
 refine awp_skip ?_
 refine hK _ _ ?_
 clear hK K
 clear h3 h4 eh hc c
 repeat with_reducible refine awp_assoc ?_
 refine awp_sr fun K hK=>?_
 simp
 refine hK _ _ ?_
 clear hK K
 refine awp_seq_k fun K hK=>?_
 refine awp_block ?_
 refine awp_up (s.size - 1) (fun k=>Env.ofL [(0,strV s),(1,.v (.int .u8 lo)),(2,.v (.int .u8 hi)),(6,boolV false),(7,intV ((k:Int)+1))]) (fun k=>HL H []) (fun k=>∀ x∈s.data.toList.tail.take k,tailB x=true) (weak_HL hcl rfl (by simp) (by simp)) (by simp) (fun k hk hv=>?_) (fun hv=>?_)
 ·have hk1:(k:Int)+1 < s.size:=by omega
  have hk2:k+1 < s.size:=by omega
  obtain ⟨c,hc⟩:∃ c,s.data.toList[k+1]?=some c:=by
   rw [ba_size] at hk2
   exact ⟨_,List.getElem?_eq_getElem hk2⟩
  have hc':s.data.toList.tail[k]?=some c:=by rw [List.getElem?_tail];exact hc
  have t1:((k:Int)+1).toNat=k+1:=by omega
  have t2:(0:Int)≤(k:Int)+1:=by omega
  have w2:IntKind.i64.wrap ((k:Int)+1+1)=(k:Int)+1+1:=wrap64 (by omega) (by omega)
  repeat with_reducible refine awp_assoc ?_
  refine awp_sr fun K hK=>?_
  simp [hk1]
  refine hK _ _ ?_
  clear hK K
  repeat with_reducible refine awp_assoc ?_
  refine awp_seq_k fun K hK=>?_
  refine awp_condT rfl (by simp) ?_
  refine awp_skip ?_
  refine hK _ _ ?_
  clear hK K
  refine awp_seq_k fun K hK=>?_
  refine awp_block ?_
  repeat with_reducible refine awp_assoc ?_
  refine awp_sr fun K hK=>?_
  simp [hc,t1,t2]
  refine hK _ _ ?_
  clear hK K
  refine awp_sr fun KB hKB=>?_
  suffices hE:∀ b,b=(!tailB c)→KB (Env.ofL [(0,strV s),(1,.v (.int .u8 lo)),(2,.v (.int .u8 hi)),(6,boolV false),(7,intV ((k:Int)+1)),(8,byteV c),(28,.undef),(32,boolV true),(64,boolV b)]) (HL H []) by
   clear hKB
   by_cases a1:(97:Int)≤c.toNat
   ·by_cases a2:(c.toNat:Int)≤122
    ·refine aOps_split 8 fun K hK=>?_
     simp [a1,a2]
     refine hK _ _ ?_
     clear hK K
     refine aOps_split 8 fun K hK=>?_
     simp [a1,a2]
     refine hK _ _ ?_
     clear hK K
     refine aOps_split 8 fun K hK=>?_
     simp [a1,a2]
     refine hK _ _ ?_
     clear hK K
     simp [a1,a2]
     exact hE _ (by simp [tailB,letterB,smallB,a1,a2])
    ·have b1:(65:Int)≤c.toNat:=by omega
     have b2:¬ (c.toNat:Int)≤90:=by omega
     have b3:(48:Int)≤c.toNat:=by omega
     have b4:¬ (c.toNat:Int)≤57:=by omega
     have b5:¬ (c.toNat:Int)=95:=by omega
     refine aOps_split 8 fun K hK=>?_
     simp [a1,a2,b1,b2,b3,b4,b5]
     refine hK _ _ ?_
     clear hK K
     refine aOps_split 8 fun K hK=>?_
     simp [a1,a2,b1,b2,b3,b4,b5]
     refine hK _ _ ?_
     clear hK K
     refine aOps_split 8 fun K hK=>?_
     simp [a1,a2,b1,b2,b3,b4,b5]
     refine hK _ _ ?_
     clear hK K
     simp [a1,a2,b1,b2,b3,b4,b5]
     exact hE _ (by simp [tailB,letterB,smallB,greatB,digitB,a1,a2,b1,b2,b3,b4,b5])
   ·by_cases a3:(65:Int)≤c.toNat
    ·by_cases a4:(c.toNat:Int)≤90
     ·refine aOps_split 8 fun K hK=>?_
      simp [a1,a3,a4]
      refine hK _ _ ?_
      clear hK K
      refine aOps_split 8 fun K hK=>?_
      simp [a1,a3,a4]
      refine hK _ _ ?_
      clear hK K
      refine aOps_split 8 fun K hK=>?_
      simp [a1,a3,a4]
      refine hK _ _ ?_
      clear hK K
      simp [a1,a3,a4]
      exact hE _ (by simp [tailB,letterB,greatB,a3,a4])
     ·have b3:(48:Int)≤c.toNat:=by omega
      have b4:¬ (c.toNat:Int)≤57:=by omega
      by_cases b5:(c.toNat:Int)=95
      ·refine aOps_split 8 fun K hK=>?_
       simp [a1,a3,a4,b3,b4,b5]
       refine hK _ _ ?_
       clear hK K
       refine aOps_split 8 fun K hK=>?_
       simp [a1,a3,a4,b3,b4,b5]
       refine hK _ _ ?_
       clear hK K
       refine aOps_split 8 fun K hK=>?_
       simp [a1,a3,a4,b3,b4,b5]
       refine hK _ _ ?_
       clear hK K
       simp [a1,a3,a4,b3,b4,b5]
       have h5:=hE false (by simp [tailB,b5])
       rw [show byteV c=.v (.int .u8 95) by unfold byteV;rw [b5]] at h5
       exact h5
      ·refine aOps_split 8 fun K hK=>?_
       simp [a1,a3,a4,b3,b4,b5]
       refine hK _ _ ?_
       clear hK K
       refine aOps_split 8 fun K hK=>?_
       simp [a1,a3,a4,b3,b4,b5]
       refine hK _ _ ?_
       clear hK K
       refine aOps_split 8 fun K hK=>?_
       simp [a1,a3,a4,b3,b4,b5]
       refine hK _ _ ?_
       clear hK K
       simp [a1,a3,a4,b3,b4,b5]
       exact hE _ (by simp [tailB,letterB,smallB,greatB,digitB,a1,a3,a4,b3,b4,b5])
    ·by_cases a5:(48:Int)≤c.toNat
     ·have b5:¬ (c.toNat:Int)=95:=by omega
      by_cases a6:(c.toNat:Int)≤57
      ·refine aOps_split 8 fun K hK=>?_
       simp [a1,a3,a5,a6]
       refine hK _ _ ?_
       clear hK K
       refine aOps_split 8 fun K hK=>?_
       simp [a1,a3,a5,a6]
       refine hK _ _ ?_
       clear hK K
       refine aOps_split 8 fun K hK=>?_
       simp [a1,a3,a5,a6]
       refine hK _ _ ?_
       clear hK K
       simp [a1,a3,a5,a6]
       exact hE _ (by simp [tailB,digitB,a5,a6])
      ·refine aOps_split 8 fun K hK=>?_
       simp [a1,a3,a5,a6,b5]
       refine hK _ _ ?_
       clear hK K
       refine aOps_split 8 fun K hK=>?_
       simp [a1,a3,a5,a6,b5]
       refine hK _ _ ?_
       clear hK K
       refine aOps_split 8 fun K hK=>?_
       simp [a1,a3,a5,a6,b5]
       refine hK _ _ ?_
       clear hK K
       simp [a1,a3,a5,a6,b5]
       exact hE _ (by simp [tailB,letterB,smallB,greatB,digitB,a1,a3,a6,b5])
     ·have b5:¬ (c.toNat:Int)=95:=by omega
      refine aOps_split 8 fun K hK=>?_
      simp [a1,a3,a5,b5]
      refine hK _ _ ?_
      clear hK K
      refine aOps_split 8 fun K hK=>?_
      simp [a1,a3,a5,b5]
      refine hK _ _ ?_
      clear hK K
      refine aOps_split 8 fun K hK=>?_
      simp [a1,a3,a5,b5]
      refine hK _ _ ?_
      clear hK K
      simp [a1,a3,a5,b5]
      exact hE _ (by simp [tailB,letterB,smallB,greatB,digitB,a1,a3,a5,b5])
  intro b hb
  refine hKB _ _ ?_
  clear hKB KB
  cases ht:tailB c
  ·refine awp_condT rfl (by simp [hb,ht]) ?_
   repeat with_reducible refine awp_assoc ?_
   refine awp_sr fun K hK=>?_
   simp
   refine hK _ _ ?_
   clear hK K
   have:tlB s=false:=by
    have:s.data.toList.tail.all tailB=false:=by
     rw [List.all_eq_false]
     exact ⟨c,List.mem_of_getElem? hc',by simp [ht]⟩
    simp [tlB,this]
   simp [e,this,reset_all hcl]
  ·refine awp_condF rfl (by simp [hb,ht]) ?_
   refine awp_skip ?_
   refine hK _ _ ?_
   clear hK K
   refine awp_region ?_
   simp [w2]
   refine ⟨fun x hx=>?_,?_⟩
   ·rw [take_one hc'] at hx
    simp only [List.mem_append,List.mem_singleton] at hx
    rcases hx with hx | rfl
    ·exact hv x hx
    ·exact ht
   ·refine weak_HL hcl rfl (by simp) (by simp)
 ·have hend:¬ (((s.size - 1:Nat):Int)+1 < s.size):=by omega
  repeat with_reducible refine awp_assoc ?_
  refine awp_sr fun K hK=>?_
  simp [hend]
  refine hK _ _ ?_
  clear hK K
  repeat with_reducible refine awp_assoc ?_
  refine awp_seq_k fun K hK=>?_
  refine awp_condF rfl (by simp) ?_
  refine awp_exit ?_
  simp
  clear hK K
  refine hK _ _ ?_
  clear hK K
  repeat with_reducible refine awp_assoc ?_
  refine awp_sr fun K hK=>?_
  simp
  refine hK _ _ ?_
  clear hK K
  have:tlB s=true:=by
   rw [List.take_of_length_le (by rw [List.length_tail,←ba_size];exact Nat.le_refl _)] at hv
   have h2':s.size≤16:=by omega
   simp only [tlB,h2',List.all_eq_true.2 hv];rfl
  simp [e,this,reset_all hcl]
theorem mSmall_c (s:ByteArray) (H:AHeap):ACalls Tryz.prog 152 [strV s] H (boolV (smallN s)) H:=by
 have e:smallN s=(nameB 97 122 s && !memS s wordsB):=by
  rw [small_tl]
  have h1:nameB 97 122 s=(headP smallB s && tlB s):=rfl
  have h2:wordB s=memS s wordsB:=by simp only [wordB,memS,eq_comm]
  rw [h1,h2]
 rw [e]
 refine acalls_walk (fun d=>if d=4 then .lit else .imm) [0,2,3] Tryz.mixed Tryz.func152 rfl rfl rfl (by decide) (fun hcl hlow=>?_)
 repeat with_reducible refine awp_assoc ?_
 refine awp_sr fun K hK=>?_
 simp
 refine hK _ _ ?_
 clear hK K
 repeat with_reducible refine awp_assoc ?_
 refine awp_sr fun K hK=>?_
 simp
 refine hK _ _ ?_
 clear hK K
 repeat with_reducible refine awp_assoc ?_
 refine awp_sr fun K hK=>?_
 refine aOps_split 1 fun K hK=>?_
 simp
 refine hK _ _ ?_
 clear hK K
 refine aOps_call (mName_c s 97 122 _) (by first | rfl | simp) rfl rfl (by first | (simp;done) | rfl) ?_
 cases hn:nameB 97 122 s
 ·simp
  refine hK _ _ ?_
  clear hK K
  simp [hn,reset_all hcl]
 refine aOps_split 3 fun K hK=>?_
 simp
 refine hK _ _ ?_
 clear hK K
 refine aOps_call (contains_c wordsB s (by decide) _) (by first | rfl | simp) rfl rfl (by first | (simp;done) | rfl) ?_
 simp
 refine hK _ _ ?_
 clear hK K
 simp [hn,reset_all hcl]
mutual
def Nd.deepB:Nd→Int→Bool
 | .mk _ _ _ l,r=>decide (r < 1) || deepL l (r - 1)
def deepL:List Nd→Int→Bool
 | [],_=>false
 | t::l,r=>t.deepB r || deepL l r
end
theorem deepL_any (l:List Nd) (r:Int):deepL l r=l.any fun t=>t.deepB r:=by
 induction l with
 | nil=>rfl
 | cons t l ih=>simp [deepL,ih]
theorem mDeep1_c (x:Nd) (r:Int) (h1:1≤r) (h2:r≤1000) (j:Nat) (H:AHeap) (hj:H.get j=some (.cells [intV r])) (h:∀ H,ACalls Tryz.prog 81 [x.enc,intV (r - 1)] H (boolV (x.deepB (r - 1))) H) :
  ACalls Tryz.prog 150 [x.enc,.ref j 0] H (boolV (x.deepB (r - 1))) H:=by
 generalize x.deepB (r - 1)=b at *
 obtain ⟨xo,xs,xn,xl⟩:=x
 simp only [Nd.enc_mk] at h ⊢
 refine acalls_walk (fun _=>.imm) [0,1,2,3] Tryz.mixed Tryz.func150 rfl rfl rfl (by decide) (fun hcl hlow=>?_)
 have hjl:j < H.next:=(hcl j _ hj).1
 have gj:∀ bs,(HL H bs).get j=some (.cells [intV r]):=fun bs=>by rw [get_lt hjl];exact hj
 have w1:IntKind.i64.wrap (r - 1)=r - 1:=wrap64 (by omega) (by omega)
 repeat with_reducible refine awp_assoc ?_
 refine awp_sr fun K hK=>?_
 simp
 refine hK _ _ ?_
 clear hK K
 repeat with_reducible refine awp_assoc ?_
 refine awp_sr fun K hK=>?_
 refine aOps_split 3 fun K hK=>?_
 simp [gj,w1]
 refine hK _ _ ?_
 clear hK K
 refine aOps_call (h _) (by first | rfl | simp) rfl rfl (by first | (simp;done) | rfl) ?_
 simp
 refine hK _ _ ?_
 clear hK K
 simp [reset_all hcl]
theorem mDeep_c {b:Nat} (hb:b≤4611686018427387904):∀ t:Nd,t.Sh b→∀ r:Int,0≤r→r≤1000→∀ H,ACalls Tryz.prog 81 [t.enc,intV r] H (boolV (t.deepB r)) H:=by
 refine Nd.ind fun o s n l ih hs r hr0 hr H=>?_
 have hi:=hs.inv
 have e0:(Nd.mk o s n l).deepB r=(decide (r < 1) || l.any fun t=>t.deepB (r - 1)):=by simp [Nd.deepB,deepL_any]
 rw [e0]
 simp only [Nd.enc_mk]
 refine acalls_walk (fun _=>.imm) [0,1,2,3,4] Tryz.mixed Tryz.func81 rfl rfl rfl (by decide) (fun hcl hlow=>?_)
 repeat with_reducible refine awp_assoc ?_
 refine awp_sr fun K hK=>?_
 simp
 refine hK _ _ ?_
 clear hK K
 by_cases h1:r < 1
 ·repeat with_reducible refine awp_assoc ?_
  refine awp_sr fun K hK=>?_
  refine aOps_split 5 fun K hK=>?_
  simp [h1]
  refine hK _ _ ?_
  clear hK K
  simp [h1]
  refine hK _ _ ?_
  clear hK K
  simp [h1,reset_all hcl]
 ·have hh:=hasP_c l (by omega) 150 [.ref (nid H.next 1) 0] (fun t=>t.deepB (r - 1)) (HL H [.cells [intV o,strV s,intV n,.slice (l.map Nd.cells) none],.cells [intV r]]) (fun x hx=>mDeep1_c x r (by omega) hr (nid H.next 1) _ (by simp) (fun H=>ih x hx (hi.2 x hx) (r - 1) (by omega) (by omega) H))
  repeat with_reducible refine awp_assoc ?_
  refine awp_sr fun K hK=>?_
  refine aOps_split 6 fun K hK=>?_
  simp [h1]
  refine hK _ _ ?_
  clear hK K
  refine aOps_call (hh) (by first | rfl | simp) rfl rfl (by first | (simp;done) | rfl) ?_
  simp
  refine hK _ _ ?_
  clear hK K
  simp [h1,reset_all hcl]
mutual
def Nd.cntW:Nd→Int
 | .mk _ _ _ l=>cntWL l 1
def cntWL:List Nd→Int→Int
 | [],n=>n
 | t::l,n=>if n≤300 then cntWL l (IntKind.i64.wrap (n+t.cntW)) else n
end
theorem cntWL_big (l:List Nd) {n:Int} (h:¬ n≤300):cntWL l n=n:=by cases l <;> simp [cntWL,h]
theorem cntWL_append:∀ (a b:List Nd) (n:Int),cntWL (a++b) n=cntWL b (cntWL a n)
 | [],b,n=>rfl
 | t::a,b,n=>by
  simp only [List.cons_append,cntWL]
  by_cases h:n≤300
  ·rw [if_pos h,if_pos h,cntWL_append a b]
  ·rw [if_neg h,if_neg h,cntWL_big b h]
set_option maxHeartbeats 1000000 in
theorem mCount_c {b:Nat} (hb:b≤4611686018427387904):∀ t:Nd,t.Sh b→∀ H,ACalls Tryz.prog 82 [t.enc] H (intV t.cntW) H:=by
 refine Nd.ind fun o s n l ih hs H=>?_
 have hi:=hs.inv
 have hlen:l.length < 4611686018427387904:=by omega
 have e0:(Nd.mk o s n l).cntW=cntWL l 1:=by simp [Nd.cntW]
 rw [e0]
 obtain ⟨F,hF⟩:∃ F,cntWL l 1=F:=⟨_,rfl⟩
 rw [hF]
 obtain ⟨st,hst⟩:∃ st:Nat→Int,∀ k,st k=cntWL (l.take k) 1:=⟨_,fun _=>rfl⟩
 have hst0:st 0=1:=by rw [hst,List.take_zero];rfl
 have hFl:st l.length=F:=by rw [hst,List.take_length,hF]
 have hFk:∀ k,¬ st k≤300→F=st k:=fun k h=>by
  have h2:=cntWL_append (l.take k) (l.drop k) 1
  rw [List.take_append_drop,←hst,cntWL_big _ h] at h2
  rw [←hF,h2]
 have hstep:∀ k t,l[k]?=some t→st k≤300→st (k+1)=IntKind.i64.wrap (st k+t.cntW):=fun k t h h2=>by
  rw [hst,take_one h,cntWL_append,←hst];simp [cntWL,h2]
 simp only [Nd.enc_mk]
 refine acalls_walk (fun _=>.imm) [0,1,2,3,4,13] Tryz.mixed Tryz.func82 rfl rfl rfl (by decide) (fun hcl hlow=>?_)
 repeat with_reducible refine awp_assoc ?_
 refine awp_sr fun K hK=>?_
 simp
 refine hK _ _ ?_
 clear hK K
 repeat with_reducible refine awp_assoc ?_
 refine awp_sr fun K hK=>?_
 simp
 refine hK _ _ ?_
 clear hK K
 repeat with_reducible refine awp_assoc ?_
 refine awp_sr fun K hK=>?_
 simp
 refine hK _ _ ?_
 clear hK K
 refine awp_seq_k fun KB hKB=>?_
 refine awp_block ?_
 have hB:∀ env,env 3=intV F→KB env (HL H [.cells [intV o,strV s,intV n,.slice (l.map Nd.cells) none]]):=by
  intro env e1
  refine hKB _ _ ?_
  clear hKB KB
  repeat with_reducible refine awp_assoc ?_
  refine awp_sr fun K hK=>?_
  simp [e1]
  refine hK _ _ ?_
  clear hK K
  simp [reset_all hcl]
 clear hKB
 refine awp_up l.length (fun k=>Env.ofL [(1,.ref (nid H.next 0) 0),(3,intV (st k)),(4,intV k)]) (fun k=>HL H [.cells [intV o,strV s,intV n,.slice (l.map Nd.cells) none]]) (fun _=>True) ?_ trivial (fun k hk _=>?_) (fun _=>?_)
 ·rw [hst0]
  exact weak_HL hcl rfl (by simp) (by simp)
 ·obtain ⟨t,ht⟩:∃ t,l[k]?=some t:=⟨_,List.getElem?_eq_getElem hk⟩
  have hc:=ih t (List.mem_of_getElem? ht) (hi.2 t (List.mem_of_getElem? ht))
  have hs1:=hstep k t ht
  have hfk:=hFk k
  clear hstep hFk hst hFl ih
  generalize hq:st k=q at *
  generalize hq1:st (k+1)=q1 at *
  by_cases hm:q≤300
  ·have hs2:=hs1 hm
   clear hs1 hfk hB
   subst hs2
   generalize t.cntW=z at *
   obtain ⟨tn,tm,tk,tl⟩:=t
   simp only [Nd.enc_mk] at hc
   repeat with_reducible refine awp_assoc ?_
   refine awp_sr fun K hK=>?_
   refine aOps_split 6 fun K hK=>?_
   simp [hk,hm]
   refine hK _ _ ?_
   clear hK K
   simp [hk,hm]
   refine hK _ _ ?_
   clear hK K
   repeat with_reducible refine awp_assoc ?_
   refine awp_seq_k fun K hK=>?_
   refine awp_condT rfl (by simp) ?_
   refine awp_skip ?_
   refine hK _ _ ?_
   clear hK K
   refine awp_seq_k fun KC hKC=>?_
   refine awp_block ?_
   refine awp_region ?_
   refine aOps_split 6 fun K hK=>?_
   simp [ht,Nd.cells]
   refine hK _ _ ?_
   clear hK K
   refine aOps_call (hc _) (by first | rfl | simp) rfl rfl (by first | (simp;done) | rfl) ?_
   simp
   refine hKC _ _ ?_
   clear hKC KC
   refine awp_region ?_
   simp [wrap_succ (show k < 4611686018427387904 by omega)]
   exact weak_HL hcl rfl (by simp) (by simp)
  ·have hf:=hfk hm
   subst hf
   repeat with_reducible refine awp_assoc ?_
   refine awp_sr fun K hK=>?_
   refine aOps_split 6 fun K hK=>?_
   simp [hk,hm]
   refine hK _ _ ?_
   clear hK K
   simp [hk,hm]
   refine hK _ _ ?_
   clear hK K
   refine awp_seq_k fun K hK=>?_
   refine awp_condF rfl (by simp) ?_
   refine awp_exit ?_
   simp
   exact hB _ rfl
 ·rw [hFl]
  repeat with_reducible refine awp_assoc ?_
  refine awp_sr fun K hK=>?_
  refine aOps_split 6 fun K hK=>?_
  simp
  refine hK _ _ ?_
  clear hK K
  simp
  refine hK _ _ ?_
  clear hK K
  refine awp_seq_k fun K hK=>?_
  refine awp_condF rfl (by simp) ?_
  refine awp_exit ?_
  simp
  exact hB _ rfl
end Go.Proofs.YtdppfcbeiplckaaGreat
namespace Go.Proofs.YtdppfcbeiplckaaGreat
open Go Go.Abs Go.Proofs
set_option maxRecDepth 20000
attribute [local simp] aOps wantedA aStep aop aLoad aStore aBin aUn aFieldAddr aField aIndexAddr aIndex aLen aBuild aFill aAlloc aAppend aAppendOwn aMin aMax aBuildSlice litRows newRows isMut isOwn isNilS nilsW bytesR tokW tokAV tokL ret readC splice aeval isLit isLate isCut aCut AV.celled AV.one AV.ofValue Value.oneCell' Value.cells intOp strOp get_nid upd_nid awp aEnd aResults aResult Det unord isCall isNext
attribute [local simp] low_take low_strs low_comp low_tcomp wkEs_refl' WkBs WkEnv WkB WkL WkE WkO ABlock.low lowO lowL lowR AV.low cellsL_eq Ty.low low_map Ty.cells_length Ty.cells_one
attribute [local simp] cellsNd_eq low_nds Nd.cells_length Nd.cells_one cellsDT_eq low_dts DT.kcells_length DT.kcells_one low_ints low_rows low_pls
def okP (o:Int) (s:ByteArray) (n:Int) (l:List Nd):Bool :=
 if o=1 then decide (s=ByteArray.empty) && (decide (n=0) && decide (l.length=0))
 else if o=2 then smallN s && (decide (n=0) && decide (l.length=0))
 else if o=3 then nameB 65 90 s && (decide (n=0) && decide (l.length≤8))
 else if o=4 then decide (s=ByteArray.empty) && (decide (l.length=0) && (decide (-1000000000≤n) && decide (n≤1000000000)))
 else false
mutual
def Nd.patB:Nd→Bool
 | .mk o s n l=>okP o s n l && patL l
def patL:List Nd→Bool
 | []=>true
 | t::l=>t.patB && patL l
end
theorem patL_all (l:List Nd):patL l=l.all Nd.patB:=by
 induction l with
 | nil=>rfl
 | cons t l ih=>simp [patL,ih]
theorem mPat1_c (x:Nd) (h:∀ H,ACalls Tryz.prog 85 [x.enc] H (boolV x.patB) H) (H:AHeap):ACalls Tryz.prog 154 [x.enc] H (boolV (!x.patB)) H:=by
 generalize x.patB=b at *
 obtain ⟨xo,xs,xn,xl⟩:=x
 simp only [Nd.enc_mk] at h ⊢
 refine acalls_walk (fun _=>.imm) [0,1,2] Tryz.mixed Tryz.func154 rfl rfl rfl (by decide) (fun hcl hlow=>?_)
 repeat with_reducible refine awp_assoc ?_
 refine awp_sr fun K hK=>?_
 simp
 refine hK _ _ ?_
 clear hK K
 repeat with_reducible refine awp_assoc ?_
 refine awp_sr fun K hK=>?_
 refine aOps_split 1 fun K hK=>?_
 simp
 refine hK _ _ ?_
 clear hK K
 refine aOps_call (h _) (by first | rfl | simp) rfl rfl (by first | (simp;done) | rfl) ?_
 simp
 refine hK _ _ ?_
 clear hK K
 simp [reset_all hcl]
set_option maxHeartbeats 2000000 in
theorem mPat_c {b:Nat} (hb:b≤4611686018427387904):∀ t:Nd,t.Sh b→∀ H,ACalls Tryz.prog 85 [t.enc] H (boolV t.patB) H:=by
 refine Nd.ind fun o s n l ih hs H=>?_
 have hi:=hs.inv
 have hh:=fun H=>hasP_c l (by omega) 154 [] (fun x=>!x.patB) H (fun x hx=>mPat1_c x (ih x hx (hi.2 x hx)) H)
 have hall:(l.any fun x=>!x.patB)=!l.all Nd.patB:=by simp [List.all_eq_not_any_not]
 simp only [hall] at hh
 have hg:(Nd.mk o s n l).patB=(okP o s n l && l.all Nd.patB):=by simp [Nd.patB,patL_all]
 rw [hg]
 generalize l.all Nd.patB=g at *
 have hsm:=fun H=>mSmall_c s H
 have hgr:=fun H=>mName_c s 65 90 H
 obtain ⟨F,hF⟩:∃ F,okP o s n l=F:=⟨_,rfl⟩
 rw [hF]
 unfold okP at hF
 generalize smallN s=sm at *
 generalize nameB 65 90 s=gr at *
 simp only [Nd.enc_mk]
 refine acalls_walk (fun _=>.imm) [0,1,2,3,5,6,22,38,54] Tryz.mixed Tryz.func85 rfl rfl rfl (by decide) (fun hcl hlow=>?_)
 repeat with_reducible refine awp_assoc ?_
 refine awp_sr fun K hK=>?_
 simp
 refine hK _ _ ?_
 clear hK K
 repeat with_reducible refine awp_assoc ?_
 refine awp_sr fun K hK=>?_
 simp
 refine hK _ _ ?_
 clear hK K
 repeat with_reducible refine awp_assoc ?_
 refine awp_sr fun K hK=>?_
 simp
 refine hK _ _ ?_
 clear hK K
 refine awp_seq_k fun KA hKA=>?_
 refine awp_block ?_
 have hA:∀ env,env 1=.ref (nid H.next 0) 0→env 3=boolV F→KA env (HL H [.cells [intV o,strV s,intV n,.slice (l.map Nd.cells) none]]):=by
  intro env e1 e3
  refine hKA _ _ ?_
  clear hKA KA hF
  cases F with
  | false =>
   repeat with_reducible refine awp_assoc ?_
   refine awp_sr fun K hK=>?_
   refine aOps_split 6 fun K hK=>?_
   simp [e1,e3]
   refine hK _ _ ?_
   clear hK K
   simp [e1,e3]
   refine hK _ _ ?_
   clear hK K
   simp [reset_all hcl]
  | true =>
   repeat with_reducible refine awp_assoc ?_
   refine awp_sr fun K hK=>?_
   refine aOps_split 4 fun K hK=>?_
   simp [e1,e3]
   refine hK _ _ ?_
   clear hK K
   refine aOps_call (hh _) (by first | rfl | simp) rfl rfl (by first | (simp;done) | rfl) ?_
   simp [e1,e3]
   refine hK _ _ ?_
   clear hK K
   simp [reset_all hcl]
 clear hKA hh hall
 have hs0:(s=ByteArray.empty)=(s=⟨#[]⟩):=rfl
 by_cases k1:o=1
 ·have b1:=eq_true k1
  rw [if_pos k1] at hF
  refine awp_sr fun K hK=>?_
  simp [b1]
  refine hK _ _ ?_
  clear hK K
  refine awp_condT rfl (by simp) ?_
  refine awp_region ?_
  by_cases c1:s=ByteArray.empty
  ·have d1:=eq_true c1
   have d1':(s=⟨#[]⟩)=True:=d1
   by_cases c2:n=0
   ·have d2:=eq_true c2
    refine aOps_split 8 fun K hK=>?_
    simp [d1,d1',d2]
    refine hK _ _ ?_
    clear hK K
    refine aOps_split 6 fun K hK=>?_
    simp [d1,d1',d2]
    refine hK _ _ ?_
    clear hK K
    simp [d1,d1',d2]
    refine hA _ ?_ ?_
    ·rfl
    ·rw [←hF];simp [c1,c2]
   ·refine aOps_split 8 fun K hK=>?_
    simp [d1,d1',c2]
    refine hK _ _ ?_
    clear hK K
    refine aOps_split 6 fun K hK=>?_
    simp [d1,d1',c2]
    refine hK _ _ ?_
    clear hK K
    simp [d1,d1',c2]
    refine hA _ ?_ ?_
    ·rfl
    ·rw [←hF];simp [c1,c2]
  ·have c1':¬ s=⟨#[]⟩:=c1
   refine aOps_split 8 fun K hK=>?_
   simp [c1,c1']
   refine hK _ _ ?_
   clear hK K
   refine aOps_split 6 fun K hK=>?_
   simp [c1,c1']
   refine hK _ _ ?_
   clear hK K
   simp [c1,c1']
   refine hA _ ?_ ?_
   ·rfl
   ·rw [←hF];simp [c1]
 rw [if_neg k1] at hF
 refine awp_sr fun K hK=>?_
 simp [k1]
 refine hK _ _ ?_
 clear hK K
 refine awp_condF rfl (by simp) ?_
 by_cases k2:o=2
 ·have b2:=eq_true k2
  rw [if_pos k2] at hF
  refine awp_sr fun K hK=>?_
  simp [b2]
  refine hK _ _ ?_
  clear hK K
  refine awp_condT rfl (by simp) ?_
  refine awp_region ?_
  refine aOps_split 2 fun K hK=>?_
  simp
  refine hK _ _ ?_
  clear hK K
  refine aOps_call (hsm _) (by first | rfl | simp) rfl rfl (by first | (simp;done) | rfl) ?_
  cases sm with
  | false =>
   refine aOps_split 7 fun K hK=>?_
   simp
   refine hK _ _ ?_
   clear hK K
   refine aOps_split 5 fun K hK=>?_
   simp
   refine hK _ _ ?_
   clear hK K
   simp
   refine hA _ ?_ ?_
   ·rfl
   ·rw [←hF];simp
  | true =>
   by_cases c2:n=0
   ·have d2:=eq_true c2
    refine aOps_split 7 fun K hK=>?_
    simp [d2]
    refine hK _ _ ?_
    clear hK K
    refine aOps_split 5 fun K hK=>?_
    simp [d2]
    refine hK _ _ ?_
    clear hK K
    simp [d2]
    refine hA _ ?_ ?_
    ·rfl
    ·rw [←hF];simp [c2]
   ·refine aOps_split 7 fun K hK=>?_
    simp [c2]
    refine hK _ _ ?_
    clear hK K
    refine aOps_split 5 fun K hK=>?_
    simp [c2]
    refine hK _ _ ?_
    clear hK K
    simp [c2]
    refine hA _ ?_ ?_
    ·rfl
    ·rw [←hF];simp [c2]
 rw [if_neg k2] at hF
 refine awp_sr fun K hK=>?_
 simp [k2]
 refine hK _ _ ?_
 clear hK K
 refine awp_condF rfl (by simp) ?_
 by_cases k3:o=3
 ·have b3:=eq_true k3
  rw [if_pos k3] at hF
  refine awp_sr fun K hK=>?_
  simp [b3]
  refine hK _ _ ?_
  clear hK K
  refine awp_condT rfl (by simp) ?_
  refine awp_region ?_
  refine aOps_split 2 fun K hK=>?_
  simp
  refine hK _ _ ?_
  clear hK K
  refine aOps_call (hgr _) (by first | rfl | simp) rfl rfl (by first | (simp;done) | rfl) ?_
  cases gr with
  | false =>
   refine aOps_split 7 fun K hK=>?_
   simp
   refine hK _ _ ?_
   clear hK K
   refine aOps_split 5 fun K hK=>?_
   simp
   refine hK _ _ ?_
   clear hK K
   simp
   refine hA _ ?_ ?_
   ·rfl
   ·rw [←hF];simp
  | true =>
   by_cases c2:n=0
   ·have d2:=eq_true c2
    by_cases c3:l.length≤8
    ·have c3':(l.length:Int)≤8:=by omega
     refine aOps_split 7 fun K hK=>?_
     simp [d2,c3']
     refine hK _ _ ?_
     clear hK K
     refine aOps_split 5 fun K hK=>?_
     simp [d2,c3']
     refine hK _ _ ?_
     clear hK K
     simp [d2,c3']
     refine hA _ ?_ ?_
     ·rfl
     ·rw [←hF];simp [c2,c3]
    ·have c3':¬ (l.length:Int)≤8:=by omega
     refine aOps_split 7 fun K hK=>?_
     simp [d2,c3']
     refine hK _ _ ?_
     clear hK K
     refine aOps_split 5 fun K hK=>?_
     simp [d2,c3']
     refine hK _ _ ?_
     clear hK K
     simp [d2,c3']
     refine hA _ ?_ ?_
     ·rfl
     ·rw [←hF];simp [c2,c3]
   ·refine aOps_split 7 fun K hK=>?_
    simp [c2]
    refine hK _ _ ?_
    clear hK K
    refine aOps_split 5 fun K hK=>?_
    simp [c2]
    refine hK _ _ ?_
    clear hK K
    simp [c2]
    refine hA _ ?_ ?_
    ·rfl
    ·rw [←hF];simp [c2]
 rw [if_neg k3] at hF
 refine awp_sr fun K hK=>?_
 simp [k3]
 refine hK _ _ ?_
 clear hK K
 refine awp_condF rfl (by simp) ?_
 by_cases k4:o=4
 ·have b4:=eq_true k4
  rw [if_pos k4] at hF
  refine awp_sr fun K hK=>?_
  simp [b4]
  refine hK _ _ ?_
  clear hK K
  refine awp_condT rfl (by simp) ?_
  refine awp_region ?_
  by_cases c1:s=ByteArray.empty
  ·have d1:=eq_true c1
   have d1':(s=⟨#[]⟩)=True:=d1
   by_cases c2:l=[]
   ·have d2:=eq_true c2
    by_cases c3:-1000000000≤n
    ·by_cases c4:n≤1000000000
     ·refine aOps_split 8 fun K hK=>?_
      simp [d1,d1',d2,c3,c4]
      refine hK _ _ ?_
      clear hK K
      refine aOps_split 8 fun K hK=>?_
      simp [d1,d1',d2,c3,c4]
      refine hK _ _ ?_
      clear hK K
      simp [d1,d1',d2,c3,c4]
      refine hA _ ?_ ?_
      ·rfl
      ·rw [←hF];simp [c1,c2,c3,c4]
     ·refine aOps_split 8 fun K hK=>?_
      simp [d1,d1',d2,c3,c4]
      refine hK _ _ ?_
      clear hK K
      refine aOps_split 8 fun K hK=>?_
      simp [d1,d1',d2,c3,c4]
      refine hK _ _ ?_
      clear hK K
      simp [d1,d1',d2,c3,c4]
      refine hA _ ?_ ?_
      ·rfl
      ·rw [←hF];simp [c1,c2,c3,c4]
    ·refine aOps_split 8 fun K hK=>?_
     simp [d1,d1',d2,c3]
     refine hK _ _ ?_
     clear hK K
     refine aOps_split 8 fun K hK=>?_
     simp [d1,d1',d2,c3]
     refine hK _ _ ?_
     clear hK K
     simp [d1,d1',d2,c3]
     refine hA _ ?_ ?_
     ·rfl
     ·rw [←hF];simp [c1,c2,c3]
   ·refine aOps_split 8 fun K hK=>?_
    simp [d1,d1',c2]
    refine hK _ _ ?_
    clear hK K
    refine aOps_split 8 fun K hK=>?_
    simp [d1,d1',c2]
    refine hK _ _ ?_
    clear hK K
    simp [d1,d1',c2]
    refine hA _ ?_ ?_
    ·rfl
    ·rw [←hF];simp [c1,c2]
  ·have c1':¬ s=⟨#[]⟩:=c1
   refine aOps_split 8 fun K hK=>?_
   simp [c1,c1']
   refine hK _ _ ?_
   clear hK K
   refine aOps_split 8 fun K hK=>?_
   simp [c1,c1']
   refine hK _ _ ?_
   clear hK K
   simp [c1,c1']
   refine hA _ ?_ ?_
   ·rfl
   ·rw [←hF];simp [c1]
 rw [if_neg k4] at hF
 refine awp_sr fun K hK=>?_
 simp [k4]
 refine hK _ _ ?_
 clear hK K
 refine awp_condF rfl (by simp) ?_
 refine awp_skip ?_
 refine hA _ ?_ ?_
 ·rfl
 ·rw [←hF];rfl
end Go.Proofs.YtdppfcbeiplckaaGreat
namespace Go.Proofs.YtdppfcbeiplckaaGreat
open Go Go.Abs Go.Proofs
set_option maxRecDepth 20000
attribute [local simp] aOps wantedA aStep aop aLoad aStore aBin aUn aFieldAddr aField aIndexAddr aIndex aLen aBuild aFill aAlloc aAppend aAppendOwn aMin aMax aBuildSlice litRows newRows isMut isOwn isNilS nilsW bytesR tokW tokAV tokL ret readC splice aeval isLit isLate isCut aCut AV.celled AV.one AV.ofValue Value.oneCell' Value.cells intOp strOp get_nid upd_nid awp aEnd aResults aResult Det unord isCall isNext
attribute [local simp] low_take low_strs low_comp low_tcomp wkEs_refl' WkBs WkEnv WkB WkL WkE WkO ABlock.low lowO lowL lowR AV.low cellsL_eq Ty.low low_map Ty.cells_length Ty.cells_one
attribute [local simp] cellsNd_eq low_nds Nd.cells_length Nd.cells_one cellsDT_eq low_dts DT.kcells_length DT.kcells_one low_ints low_rows low_pls low_strs
mutual
def Nd.nms:Nd→List ByteArray
 | .mk o s _ l=>(if o=2 then [s] else [])++nmsL l
def nmsL:List Nd→List ByteArray
 | []=>[]
 | t::l=>t.nms++nmsL l
end
theorem nmsL_append (a b:List Nd):nmsL (a++b)=nmsL a++nmsL b:=by
 induction a with
 | nil=>rfl
 | cons t a ih=>simp [nmsL,ih]
theorem nmsL_take {l:List Nd} {k:Nat} {t:Nd} (h:l[k]?=some t):nmsL (l.take (k+1))=nmsL (l.take k)++t.nms:=by
 rw [take_one h,nmsL_append];simp [nmsL]
theorem nmsL_le (l:List Nd) (k:Nat):(nmsL (l.take k)).length≤(nmsL l).length:=by
 have:nmsL l=nmsL (l.take k)++nmsL (l.drop k):=by rw [←nmsL_append,List.take_append_drop]
 rw [this,List.length_append];omega
def strR (w:ByteArray):List AV:=[strV w]
theorem low_strR (n:Nat) (l:List ByteArray):lowR n (l.map strR):=lowR_map fun _ _=>⟨trivial,trivial⟩
attribute [local simp] low_strR
set_option maxHeartbeats 1000000 in
theorem mNames_c {b:Nat} (hb:b≤4611686018427387904):∀ t:Nd,t.Sh b→t.nms.length < 1099511627776→∀ H,ACalls Tryz.prog 86 [t.enc] H (.slice (t.nms.map strR) none) H:=by
 refine Nd.ind fun o s n l ih hs hl H=>?_
 have hi:=hs.inv
 have hlen:l.length < 4611686018427387904:=by omega
 have e0:(Nd.mk o s n l).nms=(if o=2 then [s] else [])++nmsL l:=by simp [Nd.nms]
 rw [e0] at hl ⊢
 generalize hhd:(if o=2 then [s] else [])=hd at *
 simp only [Nd.enc_mk]
 refine acalls_walk (fun t=>if t=3 then .nilv 1 else if t=12 then .lit else .imm) [0,1,2,3,5,8,15,16,17,18] Tryz.mixed Tryz.func86 rfl rfl rfl (by decide) (fun hcl hlow=>?_)
 repeat with_reducible refine awp_assoc ?_
 refine awp_sr fun K hK=>?_
 simp
 refine hK _ _ ?_
 clear hK K
 repeat with_reducible refine awp_assoc ?_
 refine awp_sr fun K hK=>?_
 simp
 refine hK _ _ ?_
 clear hK K
 repeat with_reducible refine awp_assoc ?_
 refine awp_sr fun K hK=>?_
 simp
 refine hK _ _ ?_
 clear hK K
 refine awp_seq_k fun KA hKA=>?_
 have hKL:∀ env,env 1=.ref (nid H.next 0) 0→env 3=.slice (hd.map strR) (some (nid H.next 1))→KA env (HL H [.cells [intV o,strV s,intV n,.slice (l.map Nd.cells) none],.tok hd.length 1 none]):=by
  intro env e1 e3
  refine hKA _ _ ?_
  clear hKA KA
  repeat with_reducible refine awp_assoc ?_
  refine awp_sr fun K hK=>?_
  simp [e1]
  refine hK _ _ ?_
  clear hK K
  refine awp_seq_k fun KB hKB=>?_
  refine awp_block ?_
  refine awp_up l.length (fun k=>Env.ofL [(1,.ref (nid H.next 0) 0),(3,.slice ((hd++nmsL (l.take k)).map strR) (some (nid H.next 1))),(15,.slice (l.map Nd.cells) none),(16,intV (l.length:Int)),(17,intV k)]) (fun k=>HL H [.cells [intV o,strV s,intV n,.slice (l.map Nd.cells) none],.tok (hd++nmsL (l.take k)).length 1 none])
   (fun _=>True) (weak_HL hcl rfl (by simp [nmsL]) (by simp [e1,e3,nmsL])) trivial (fun k hk _=>?_) (fun _=>?_)
  ·obtain ⟨t,ht⟩:∃ t,l[k]?=some t:=⟨_,List.getElem?_eq_getElem hk⟩
   have htk:=nmsL_take ht
   have hle:=nmsL_le l (k+1)
   have hle2:=nmsL_le l k
   rw [htk] at hle ⊢
   simp only [List.length_append] at hle hl
   have hc:=ih t (List.mem_of_getElem? ht) (hi.2 t (List.mem_of_getElem? ht)) (by omega)
   generalize nmsL (l.take k)=L at *
   generalize t.nms=T at *
   obtain ⟨to,ts,tn,tl⟩:=t
   simp only [Nd.enc_mk] at hc
   have hsz:(hd.length+L.length+T.length) * 16≤70368744177664:=by omega
   repeat with_reducible refine awp_assoc ?_
   refine awp_sr fun K hK=>?_
   simp [hk]
   refine hK _ _ ?_
   clear hK K
   repeat with_reducible refine awp_assoc ?_
   refine awp_seq_k fun K hK=>?_
   refine awp_condT rfl (by simp) ?_
   refine awp_skip ?_
   refine hK _ _ ?_
   clear hK K
   refine awp_seq_k fun KC hKC=>?_
   refine awp_block ?_
   repeat with_reducible refine awp_assoc ?_
   refine awp_sr fun K hK=>?_
   simp [ht,Nd.cells]
   refine hK _ _ ?_
   clear hK K
   refine awp_region ?_
   refine aOps_split 2 fun K hK=>?_
   simp
   refine hK _ _ ?_
   clear hK K
   refine aOps_call (hc _) (by first | rfl | simp) rfl rfl (by first | (simp;done) | rfl) ?_
   have hrr:∀ r:List AV,((∃ a,a∈hd∧strR a=r)∨∃ a,a∈L∧strR a=r)→r.length=1:=by
    rintro r (⟨_,_,rfl⟩ | ⟨_,_,rfl⟩) <;> rfl
   by_cases hT:T=[]
   ·subst hT
    simp
    refine ⟨by simpa using hsz,hrr,?_⟩
    refine hKC _ _ ?_
    clear hKC KC
    refine awp_region ?_
    simp [wrap_succ (show k < 4611686018427387904 by omega)]
    exact weak_HL hcl rfl (by simp) (by simp)
   ·simp [hT]
    refine ⟨fun a _=>by simp [strR],hsz,hrr,?_⟩
    refine hKC _ _ ?_
    clear hKC KC
    refine awp_region ?_
    simp [wrap_succ (show k < 4611686018427387904 by omega)]
    exact weak_HL hcl rfl (by simp [Nat.add_assoc]) (by simp)
  ·rw [List.take_length]
   repeat with_reducible refine awp_assoc ?_
   refine awp_sr fun K hK=>?_
   simp
   refine hK _ _ ?_
   clear hK K
   refine awp_seq_k fun K hK=>?_
   refine awp_condF rfl (by simp) ?_
   refine awp_exit ?_
   simp
   refine hKB _ _ ?_
   clear hK K hKB KB
   repeat with_reducible refine awp_assoc ?_
   refine awp_sr fun K hK=>?_
   simp
   refine hK _ _ ?_
   clear hK K
   simp [reset_all hcl]
 clear hKA
 by_cases h2:o=2
 ·have b2:=eq_true h2
  rw [if_pos h2] at hhd
  subst hhd
  refine awp_condT rfl (by simp [b2]) ?_
  refine awp_region ?_
  simp
  refine hKL _ ?_ ?_ <;> rfl
 ·rw [if_neg h2] at hhd
  subst hhd
  refine awp_condF rfl (by simp [h2]) ?_
  refine awp_skip ?_
  refine hKL _ ?_ ?_ <;> rfl
end Go.Proofs.YtdppfcbeiplckaaGreat
namespace Go.Proofs.YtdppfcbeiplckaaGreat
open Go Go.Abs Go.Proofs
set_option maxRecDepth 20000
attribute [local simp] aOps wantedA aStep aop aLoad aStore aBin aUn aFieldAddr aField aIndexAddr aIndex aLen aBuild aFill aAlloc aAppend aAppendOwn aMin aMax aBuildSlice litRows newRows isMut isOwn isNilS nilsW bytesR tokW tokAV tokL ret readC splice aeval isLit isLate isCut aCut AV.celled AV.one AV.ofValue Value.oneCell' Value.cells intOp strOp get_nid upd_nid awp aEnd aResults aResult Det unord isCall isNext
attribute [local simp] low_take low_strs low_comp low_tcomp wkEs_refl' WkBs WkEnv WkB WkL WkE WkO ABlock.low lowO lowL lowR AV.low cellsL_eq Ty.low low_map Ty.cells_length Ty.cells_one
attribute [local simp] cellsNd_eq low_nds Nd.cells_length Nd.cells_one cellsDT_eq low_dts DT.kcells_length DT.kcells_one low_ints low_rows low_pls low_strs low_strR
def rowR (r:List Nd):List AV:=[.slice (r.map Nd.cells) none]
theorem low_rowR (n:Nat) (l:List (List Nd)):lowR n (l.map rowR):=lowR_map fun r _=>⟨⟨by simp,low_nds n r⟩,trivial⟩
attribute [local simp] low_rowR
theorem acalls_nil2 {P:Program} {f:FuncId} {H:AHeap} {R:AV→AHeap→Prop} (h:∀ (a:Option Addr) (cap:Nat),ACallsR P f [.v (.slice a 0 cap)] H R):ACallsR P f [.slice [] none] H R:=by
 refine ⟨(h none 0).1,fun K w cargs hI ha=>?_⟩
 obtain ⟨x,xs,e,hr,hrs⟩:=ha
 obtain ⟨a,len,cap,e2,hl,_⟩:=hr
 have hl0:len=0:=by simpa using hl
 subst hl0
 exact (h a cap).2 K w cargs hI ⟨x,xs,e,e2,hrs⟩
theorem mClone_c (l:List ByteArray) (hl:l.length < 1099511627776) (H:AHeap):ACalls Tryz.prog 89 [.slice (l.map strR) none] H (.vec (nid H.next 1) l.length) (HL H [.tok 0 1 (some []),.tok l.length 1 (some (l.map strR))]):=by
 cases l with
 | nil =>
  refine acalls_nil2 fun a cap=>?_
  cases a with
  | none =>
   refine acalls_walk (fun t=>if t=2 then .nilm 1 else if t=5 then .own else .imm) [0,2,4] Tryz.mixed Tryz.func89 rfl rfl rfl (by decide) (fun hcl hlow=>?_)
   repeat with_reducible refine awp_assoc ?_
   refine awp_sr fun K hK=>?_
   simp
   refine hK _ _ ?_
   clear hK K
   repeat with_reducible refine awp_assoc ?_
   refine awp_sr fun K hK=>?_
   simp
   refine hK _ _ ?_
   clear hK K
   repeat with_reducible refine awp_assoc ?_
   refine awp_seq_k fun K hK=>?_
   refine awp_condT rfl (by simp) ?_
   repeat with_reducible refine awp_assoc ?_
   refine awp_sr fun K hK=>?_
   simp
   refine hK _ _ ?_
   clear hK K
   simp
   exact ⟨reset_HL hcl (by simp [WkR]),le_nid⟩
  | some a =>
   refine acalls_walk (fun t=>if t=2 then .nilm 1 else if t=5 then .own else .imm) [0,2,4] Tryz.mixed Tryz.func89 rfl rfl rfl (by decide) (fun hcl hlow=>?_)
   repeat with_reducible refine awp_assoc ?_
   refine awp_sr fun K hK=>?_
   simp
   refine hK _ _ ?_
   clear hK K
   repeat with_reducible refine awp_assoc ?_
   refine awp_sr fun K hK=>?_
   simp
   refine hK _ _ ?_
   clear hK K
   repeat with_reducible refine awp_assoc ?_
   refine awp_seq_k fun K hK=>?_
   refine awp_condF rfl (by simp) ?_
   refine awp_skip ?_
   refine hK _ _ ?_
   clear hK K
   repeat with_reducible refine awp_assoc ?_
   refine awp_sr fun K hK=>?_
   simp [newRows]
   refine hK _ _ ?_
   clear hK K
   simp
   exact ⟨reset_HL hcl (by simp [WkR]),le_nid⟩
 | cons s l =>
  refine acalls_walk (fun t=>if t=2 then .nilm 1 else if t=5 then .own else .imm) [0,2,4] Tryz.mixed Tryz.func89 rfl rfl rfl (by decide) (fun hcl hlow=>?_)
  repeat with_reducible refine awp_assoc ?_
  refine awp_sr fun K hK=>?_
  simp
  refine hK _ _ ?_
  clear hK K
  repeat with_reducible refine awp_assoc ?_
  refine awp_sr fun K hK=>?_
  simp
  refine hK _ _ ?_
  clear hK K
  repeat with_reducible refine awp_assoc ?_
  refine awp_seq_k fun K hK=>?_
  refine awp_condF rfl (by simp) ?_
  refine awp_skip ?_
  refine hK _ _ ?_
  clear hK K
  simp only [List.length_cons] at hl
  have hsz:(l.length+1) * 16≤70368744177664:=by omega
  repeat with_reducible refine awp_assoc ?_
  refine awp_sr fun K hK=>?_
  refine aOps_split 2 fun K hK=>?_
  simp
  refine hK _ _ ?_
  clear hK K
  refine aOps_split 1 fun K hK=>?_
  simp
  refine ⟨⟨by simp [strR],fun a _=>by simp [strR]⟩,hsz,hK _ _ ?_⟩
  clear hK K
  simp
  refine hK _ _ ?_
  clear hK K
  simp
  exact ⟨reset_HL hcl (by simp [WkR,strR];exact WkR.refl _),le_nid⟩
end Go.Proofs.YtdppfcbeiplckaaGreat
