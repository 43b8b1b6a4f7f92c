/- Sizes of what matching and the least general type answer; TypesTells returns true. -/
import Derived.Test.YtgeehnbbhnpimaaGreatMV7
import Derived.Test.YtgeehnbbhnpimaaGreatMS2
set_option linter.unusedVariables false
set_option linter.unusedSimpArgs false
namespace Go.Proofs.YtgeehnbbhnpimaaGreat
open Go Go.Abs Go.Proofs
mutual
theorem matT_small {B:Nat}:∀ (p t:Ty) (m:TyM),t.cnt≤B→(∀ q∈m,q.2.cnt≤B)→∀ q∈(matT p t m).2,q.2.cnt≤B
 | .mk n l,.mk tn tl,m,ht,hm=>by
  rw [matT]
  split
  ·split
   ·exact hm
   ·intro q hq
    simp only [List.mem_append,List.mem_singleton] at hq
    rcases hq with hq | rfl
    ·exact hm q hq
    ·exact ht
  ·split
   ·refine matL_small l tl m (fun x hx=>?_) hm
    have:=mem_cnt hx
    rw [cnt_mk] at ht;omega
   ·exact hm
theorem matL_small {B:Nat}:∀ (l l':List Ty) (m:TyM),(∀ t∈l',t.cnt≤B)→(∀ q∈m,q.2.cnt≤B)→∀ q∈(matL l l' m).2,q.2.cnt≤B
 | p::ps,t::ts,m,ht,hm=>by
  rw [matL]
  split
  ·exact matL_small ps ts _ (fun x hx=>ht x (by simp [hx])) (matT_small p t m (ht t (by simp)) hm)
  ·exact matT_small p t m (ht t (by simp)) hm
 | [],_,m,_,hm=>by simpa [matL] using hm
 | _::_,[],m,_,hm=>by simpa [matL] using hm
end
theorem matchV_small (a b:Ty):(∀ p∈(matchV a b).1,p.2.cnt≤200)∧(matchV a b).1.length≤200:=by
 unfold matchV
 split
 ·rename_i h
  obtain ⟨ha,hb⟩:=allV_two h
  split
  ·refine ⟨fun p hp=>matT_small a b [] (valid_cntV hb) (by simp) p ((sortM_perm _).subset hp),?_⟩
   show (sortM _).length≤200
   rw [(sortM_perm _).length_eq]
   have:=matT_len a b []
   have:=valid_cntV ha
   simp only [List.length_nil] at *
   omega
  ·simp
 ·simp
theorem commonV_cnt (a b:Ty):(commonV a b).1.cnt≤200:=by
 unfold commonV
 split
 ·rename_i h
  obtain ⟨ha,hb⟩:=allV_two h
  have has:=valid_cntV ha
  have hcg:=com_good a b [] ((valid_iff a).1 ha).2 ((valid_iff b).1 hb).2 (by simp [lookG]) (by simp;omega)
  have hcc:=comT_cnt a b []
  have hlf:=leaf_le (ren_leaf (namesL [(comT a b []).1])) (comT a b []).1
  show (putT _ _).cnt≤200
  rw [put_sub _ _ hcg.1]
  omega
 ·rw [zero_cnt];decide
theorem tells_all (a b:Ty) (s:TyM) (x:ByteArray) (fr:List ByteArray) (pd:List Int) (hs:s.length < 4611686018427387904) (hx:x.size < 1152921504606846976) (hf:fr.length < 4611686018427387904) (hp:pd.length < 4611686018427387904) (H:AHeap) :
  ACalls Tryz.prog 3 [a.enc,b.enc,.slice (s.map bindC) none,strV x,strs fr none,intsV pd none] H (boolV true) H:=by
 have n1:=normM_cnt a
 have n2:=vars_len a
 have n3:=parseR_cnt x
 have n4:=applyV_cnt2 s a
 obtain ⟨m,e,r,ts,u1,u2,u3,u4⟩:=unify_same a b
 have n5:=URun_len u1
 obtain ⟨n6,n7⟩:=matchV_small a b
 have n8:=commonV_cnt a b
 exact law_c a b s x fr pd
  (tells_c a (norm_same a) (by omega) (by omega) known_run)
  (reads_c x hx (by omega) known_run)
  (back_c a pd hp (fun hv hz=>back_facts a _ hv hz) known_run)
  (renames_c a fr hf (fun hv ha=>renames_facts a fr hv ha) (by omega) known_run)
  (applies_c s a hs (apply_same s a) (by omega) known_run)
  (unifies_c a b m e u1 r ts u3 u2 (fun p hp=>by have:=u4 p hp;omega) (by omega) known_run)
  (matches_c a b (meet_same a b) (common_same a b) (fun p hp=>by have:=n6 p hp;omega) (by omega) (by omega) known_run) H
end Go.Proofs.YtgeehnbbhnpimaaGreat
