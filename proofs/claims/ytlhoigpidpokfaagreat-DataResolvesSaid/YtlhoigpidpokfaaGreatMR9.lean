/- The law of predicates resolved: it holds for all declarations and predicates of the model. -/
import Derived.Test.YtlhoigpidpokfaaGreatMR6
import Derived.Test.YtlhoigpidpokfaaGreatMR7
import Derived.Test.YtlhoigpidpokfaaGreatMR8
set_option linter.unusedVariables false
set_option linter.unusedSimpArgs false
namespace Go.Proofs.YtlhoigpidpokfaaGreat
open Go Go.Abs Go.Proofs
theorem irr_of {d:DeclsD} (hV:validD d=0) {p:VP} (h:p.1∈clsN d):memS p.1 (abv d.classes p.1)=false:=by
 have h1:=(valid0 hV).lo
 unfold loopB at h1
 obtain ⟨x,hx,hn⟩:=List.mem_map.1 h
 rw [←hn]
 simpa using List.any_eq_false.1 h1 x hx
theorem dRun_c (d:DeclsD) (hr:RawD d) (l:List PredD) (hl:l.length < 4611686018427387904) {r:Bool × FM} {r':SS} {S:List VP} (hE:resE d l=0) (h:RunOk d l r r' S) (hg:r.1=true→(r.2.map (·.2)).length < 1000000000) (H:AHeap) :
  ACalls Tryz.prog 4 [d.enc,.slice (l.map PredD.cells) none] H (.tuple [.slice (((resV d l r).1.map vpP).map PredD.cells) none,intV (resV d l r).2]) H:=by
 have:=dResolve_c d hr sortOk l hl r 200 (fun _=>⟨h.red,fun hr=>⟨by have:=hg hr;simpa using this,h.rnd⟩⟩) H
 rw [List.map_map]
 exact this
theorem rmem_len {d:DeclsD} {l:List PredD} {r:Bool × FM} {r':SS} {S:List VP} (h:RunOk d l r r' S) (hr:r.1=true):(r.2.map (·.2)).length=S.length:=by
 have hp:(r.2.map (·.2)).Perm S:=nodup_perm h.rnd h.snd fun p=>by rw [h.rmem hr,h.smem hr]
 exact hp.length_eq
theorem resolves_ok (d:DeclsD) (hr:RawD d) (l:List PredD) (hl:l.length < 4611686018427387904) (H:AHeap) :
  ACalls Tryz.prog 3 [d.enc,.slice (l.map PredD.cells) none] H (boolV true) H:=by
 by_cases hE:resE d l=0
 ·obtain ⟨r,r',S,h⟩:=run_ok hE
  have hV:=(resE_iff.1 hE).1
  have hsl:=h.slen
  have hA:=dRun_c d hr l hl hE h (fun hr=>by rw [rmem_len h hr];omega)
  have hB:=fun H=>rResolve_c d hr l hl 200 r' S (fun _=>⟨h.sol,fun _=>⟨h.out,h.snd,by omega,fun p hp=>irr_of hV (h.cls p hp)⟩⟩) H
  have eV:resV d l r=if r.1=false then ([],7) else (leastP d (r.2.map (·.2)),0):=by unfold resV;rw [if_neg (by simpa using hE)]
  have eW:resW d l r' S=if r.1=false then ([],7) else (leastP d S,0):=by
   unfold resW
   rw [if_neg (by simpa using hE)]
   have:=h.same
   cases h1:r.1 <;> cases h2:r'.bad <;> rw [h1,h2] at this <;> simp at this ⊢
  rw [eV] at hA
  rw [eW] at hB
  cases hb:r.1 with
  | false =>
   rw [if_pos hb] at hA hB
   exact resolves_c d l hl [] (by simp) 7 hA hB (fun h=>by cases h) (fun h=>by cases h) H
  | true =>
   have hnb:¬ r.1=false:=by rw [hb];simp
   rw [if_neg hnb] at hA hB
   have hls:leastP d (r.2.map (·.2))=leastP d S:=leastP_same h.rnd h.snd fun p=>by rw [h.rmem hb,h.smem hb]
   rw [hls] at hA
   have hlen:(leastP d S).length≤S.length:=leastP_len
   have hag:∀ l2:List PredD,l2.length≤64→(l2=(leastP d S).map vpP∨l2=l++(leastP d S).map vpP)→∀ H,ACalls Tryz.prog 4 [d.enc,.slice (l2.map PredD.cells) none] H (.tuple [.slice (((leastP d S).map vpP).map PredD.cells) none,intV 0]) H:=by
    intro l2 h64 hl2 H
    obtain ⟨hE2,r2,r2',S2,h2,hr2,h3⟩:=again hE h hb h64 hl2
    have hsl2:=h2.slen
    have:=dRun_c d hr l2 (by omega) hE2 h2 (fun hr=>by rw [rmem_len h2 hr];omega) H
    have e2:resV d l2 r2=(leastP d S,0):=by
     unfold resV
     rw [if_neg (by simpa using hE2),if_neg (by rw [hr2];simp),h3]
    rw [e2] at this
    exact this
   refine resolves_c d l hl (leastP d S) (by omega) 0 hA ?_ (fun _ h64=>hag _ (by simp;omega) (.inl rfl)) (fun _ h64=>hag _ (by simp;omega) (.inr rfl)) H
   intro H
   rw [List.map_map]
   exact hB H
 ·have hA:=fun H=>dResolve_c d hr sortOk l hl (true,[]) 0 (fun h=>absurd h hE) H
  have hB:=fun H=>rResolve_c d hr l hl 0 ⟨[],[],false⟩ [] (fun h=>absurd h hE) H
  have eV:resV d l (true,[])=([],resE d l):=by unfold resV;rw [if_pos hE]
  have eW:resW d l ⟨[],[],false⟩ []=([],resE d l):=by unfold resW;rw [if_pos hE]
  rw [eV] at hA
  rw [eW] at hB
  exact resolves_c d l hl [] (by simp) (resE d l) hA hB (fun h=>absurd h hE) (fun h=>absurd h hE) H
end Go.Proofs.YtlhoigpidpokfaaGreat
