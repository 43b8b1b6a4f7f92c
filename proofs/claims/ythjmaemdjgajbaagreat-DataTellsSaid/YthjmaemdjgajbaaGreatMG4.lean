/- The law: the same data types. -/
import Derived.Test.YthjmaemdjgajbaaGreatMD9
import Derived.Test.YthjmaemdjgajbaaGreatME
set_option linter.unusedVariables false
set_option linter.unusedSimpArgs false
namespace Go.Proofs.YthjmaemdjgajbaaGreat
open Go Go.Abs Go.Proofs
set_option maxRecDepth 20000
attribute [local simp] aOps wantedA aStep aop aLoad aStore aBin aUn aFieldAddr aField aIndexAddr aIndex aLen aBuild aFill aAlloc aAppend aAppendOwn aMin aMax aBuildSlice litRows newRows isMut isOwn isNilS nilsW bytesR tokW tokAV tokL ret readC splice aeval isLit isLate isCut aCut AV.celled AV.one AV.ofValue Value.oneCell' Value.cells intOp strOp get_nid upd_nid awp aEnd aResults aResult Det unord isCall isNext
attribute [local simp] low_take low_strs low_comp low_tcomp wkEs_refl' WkBs WkEnv WkB WkL WkE WkO ABlock.low lowO lowL lowR AV.low cellsL_eq Ty.low low_map Ty.cells_length Ty.cells_one
attribute [local simp] ConD.cells Dat.cells PredD.cells SigD.cells ClsD.cells InstD.cells DeclsD.cells DeclsD.enc Dat.enc low_datL low_conL low_predL low_sigL low_clsL low_instL
theorem eqT_me : ∀ t : Ty, eqT t t = true := fun t => by rw [eqT_iff]
set_option maxHeartbeats 2000000 in
theorem sameDatas_c (l : List Dat) (hl : l.length < 4611686018427387904) (hv : ∀ x ∈ l, x.vars.length < 4611686018427387904) (hcn : ∀ x ∈ l, x.cons.length < 4611686018427387904) (hca : ∀ x ∈ l, ∀ c ∈ x.cons, c.args.length < 4611686018427387904 ∧ ∀ t ∈ c.args, t.cnt < 4611686018427387904) (H : AHeap) :
    ACalls Tryz.prog 11 [.slice (l.map Dat.cells) none, .slice (l.map Dat.cells) none] H (boolV true) H := by
  refine acalls_walk (fun d => if d = 8 then .late else .imm) [0, 1, 4, 5, 6, 7, 8, 9, 14, 18, 60, 68, 100, 105, 119] Tryz.mixed Tryz.func11 rfl rfl rfl (by decide) (fun hcl hlow => ?_)
  repeat with_reducible refine awp_assoc ?_
  refine awp_sr fun K hK => ?_
  simp
  refine hK _ _ ?_
  clear hK K
  repeat with_reducible refine awp_assoc ?_
  refine awp_sr fun K hK => ?_
  simp
  refine hK _ _ ?_
  clear hK K
  repeat with_reducible refine awp_assoc ?_
  refine awp_seq_k fun K hK => ?_
  refine awp_condF rfl (by simp) ?_
  refine awp_skip ?_
  refine hK _ _ ?_
  clear hK K
  repeat with_reducible refine awp_assoc ?_
  refine awp_sr fun K hK => ?_
  simp
  refine hK _ _ ?_
  clear hK K
  repeat with_reducible refine awp_assoc ?_
  refine awp_seq_k fun K hK => ?_
  refine awp_block ?_
  refine awp_up l.length (fun k => Env.ofL [(0, .slice (l.map Dat.cells) none), (1, .slice (l.map Dat.cells) none), (5, intV k)]) (fun k => HL H []) (fun _ => True) (weak_HL hcl rfl (by simp) (by simp)) (trivial) (fun k hk hvk => ?_) (fun hvk => ?_)
  · obtain ⟨x, hx⟩ : ∃ x, l[k]? = some x := ⟨_, List.getElem?_eq_getElem hk⟩
    have hxm := List.mem_of_getElem? hx
    have h1 := sameTexts_c x.vars x.vars (hv x hxm)
    have h2 := hcn x hxm
    have h3 := hca x hxm
    simp only [decide_true] at h1
    repeat with_reducible refine awp_assoc ?_
    refine awp_sr fun K hK => ?_
    simp [hk]
    refine hK _ _ ?_
    clear hK K
    repeat with_reducible refine awp_assoc ?_
    refine awp_seq_k fun K hK => ?_
    refine awp_condT rfl (by simp) ?_
    refine awp_skip ?_
    refine hK _ _ ?_
    clear hK K
    refine awp_seq_k fun KB hKB => ?_
    refine awp_block ?_
    repeat with_reducible refine awp_assoc ?_
    refine awp_sdc [] [[], [0], [], [], [], [0, 1, 2, 3, 4], [0, 1, 2, 3, 4, 5], [0, 1, 2, 3, 4], [0, 1, 2, 3, 4], [0, 1, 2, 3, 4], [0, 1, 5, 6], [0, 1, 2, 5, 6, 7], [0, 1, 2, 3, 5, 6, 7, 8], [0, 1, 2, 3, 5, 6, 7, 8, 12], [0, 1, 2, 3, 5, 6, 7, 8], [0, 1, 2, 3, 5, 6, 7, 8], [0, 1, 2, 3, 5, 6, 7, 8], [0, 1, 2, 3, 5, 6, 7, 8, 12, 13, 14, 15, 16], [0, 1, 2, 3, 5, 6, 7, 8, 12, 13, 14, 15, 16, 17], [0, 1, 2, 3, 5, 6, 7, 8, 12, 13, 14, 15, 16], [0, 1, 2, 3, 5, 6, 7, 8, 12, 13, 14, 15, 16], [0, 1, 2, 3, 5, 6, 7, 8, 12, 13, 14, 15, 16], [0, 1, 2, 3, 5, 6, 7, 8, 12, 13, 17, 18], [0, 1, 2, 3, 5, 6, 7, 8, 12, 13, 14, 17, 18, 19], [0, 1, 2, 3, 5, 6, 7, 8, 12, 13, 14, 15, 17, 18, 19, 20], [0, 1, 2, 3, 4, 5, 6, 7, 8, 9, 12, 13, 14, 17, 18, 19], [0, 1, 2, 3, 4, 5, 6, 7, 8, 9, 10, 12, 13, 14, 15, 17, 18, 19, 20], [0, 1, 2, 3, 4, 5, 6, 7, 8, 9, 10, 12, 13, 14, 15, 17, 18, 19, 20, 26], [0, 1, 2, 3, 4, 5, 6, 7, 8, 9, 10, 12, 13, 14, 15, 17, 18, 19, 20], [0, 1, 2, 3, 4, 5, 6, 7, 8, 9, 10, 12, 13, 14, 15, 17, 18, 19, 20], [0, 1, 2, 3, 4, 5, 6, 7, 8, 9, 10, 12, 13, 14, 15, 17, 18, 19, 20], [0, 1, 2, 3, 4, 5, 6, 7, 8, 9, 10, 12, 13, 14, 15, 17, 18, 19, 20, 26, 27], [0, 1, 2, 3, 4, 5, 6, 7, 8, 9, 10, 12, 13, 14, 15, 17, 18, 19, 20, 26, 27, 28, 29, 30, 31], [0, 1, 2, 3, 4, 5, 6, 7, 8, 9, 10, 12, 13, 14, 15, 17, 18, 19, 20, 26, 27, 28, 29, 30, 31, 32], [0, 1, 2, 3, 4, 5, 6, 7, 8, 9, 10, 12, 13, 14, 15, 17, 18, 19, 20, 26, 27, 28, 29, 30, 31], [0, 1, 2, 3, 4, 5, 6, 7, 8, 9, 10, 12, 13, 14, 15, 17, 18, 19, 20, 26, 27, 28, 29, 30, 31], [0, 1, 2, 3, 4, 5, 6, 7, 8, 9, 10, 12, 13, 14, 15, 17, 18, 19, 20, 26, 27, 28, 29, 30, 31], [0, 1, 2, 3, 4, 5, 6, 7, 8, 9, 10, 12, 13, 14, 15, 17, 18, 19, 20, 26, 27, 28, 29, 30, 31, 32, 33], [0, 1, 2, 3, 4, 5, 6, 7, 8, 9, 10, 12, 13, 14, 15, 17, 18, 19, 20, 26, 27, 28, 32, 33, 34], [0, 1, 2, 3, 4, 5, 6, 7, 8, 9, 10, 12, 13, 14, 15, 17, 18, 19, 20, 26, 27, 28, 29, 32, 33, 34, 35]] (by kernel_rfl) (by rfl) fun K hK => ?_
    refine aCalm_pre 6 (by rfl) fun K hK => ?_
    simp [hx, strs]
    refine hK _ _ ?_
    clear hK K
    refine aCalm_pre 6 (by rfl) fun K hK => ?_
    simp [hx, strs]
    refine hK _ _ ?_
    clear hK K
    refine aCalm_pre 5 (by rfl) fun K hK => ?_
    simp [hx, strs]
    refine hK _ _ ?_
    clear hK K
    refine aCalm_pre 5 (by rfl) fun K hK => ?_
    simp [hx, strs]
    refine hK _ _ ?_
    clear hK K
    refine aCalm_call0 (h1 _) (by first | rfl | simp) rfl rfl rfl (by first | (simp; done) | rfl) ?_
    refine aCalm_pre 5 (by rfl) fun K hK => ?_
    simp [hx, strs]
    refine hK _ _ ?_
    clear hK K
    refine aCalm_pre 6 (by rfl) fun K hK => ?_
    simp [hx, strs]
    refine hK _ _ ?_
    clear hK K
    refine aCalm_pre 6 (by rfl) fun K hK => ?_
    simp [hx, strs]
    refine hK _ _ ?_
    clear hK K
    refine aCalm_end ?_
    simp
    refine hK _ _ ?_
    clear hK K
    repeat with_reducible refine awp_assoc ?_
    refine awp_seq_k fun K hK => ?_
    refine awp_condF rfl (by simp) ?_
    refine awp_skip ?_
    refine hK _ _ ?_
    clear hK K
    repeat with_reducible refine awp_assoc ?_
    refine awp_sr fun K hK => ?_
    simp
    refine hK _ _ ?_
    clear hK K
    refine awp_hide fun Q hQ => ?_
    refine awp_block ?_
    refine awp_up x.cons.length (fun j => Env.ofL [(0, .slice (l.map Dat.cells) none), (1, .slice (l.map Dat.cells) none), (5, intV k), (6, intV j)]) (fun j => HL H []) (fun _ => True) (weak_HL hcl rfl (by simp) (by simp)) (trivial) (fun j hj hvj => ?_) (fun hvj => ?_)
    · obtain ⟨c, hc⟩ : ∃ c, x.cons[j]? = some c := ⟨_, List.getElem?_eq_getElem hj⟩
      obtain ⟨h4, h5⟩ := h3 c (List.mem_of_getElem? hc)
      obtain ⟨cn, cl⟩ := c
      simp only at h4 h5
      repeat with_reducible refine awp_assoc ?_
      refine awp_sr fun K hK => ?_
      refine aOps_split 8 fun K hK => ?_
      simp [hx, hj]
      refine hK _ _ ?_
      clear hK K
      simp
      refine hK _ _ ?_
      clear hK K
      repeat with_reducible refine awp_assoc ?_
      refine awp_seq_k fun K hK => ?_
      refine awp_condT rfl (by simp) ?_
      refine awp_skip ?_
      refine hK _ _ ?_
      clear hK K
      refine awp_seq_k fun KC hKC => ?_
      refine awp_block ?_
      repeat with_reducible refine awp_assoc ?_
      refine awp_sds 1 17 (fillAt (nid H.next 0) [strV ByteArray.empty, .v (.slice none 0 0)]) [16, 18, 19] [[], [0], [], [], [], [0, 1, 2, 3, 4], [0, 1], [0, 1, 2], [0, 1, 2, 3, 4, 5, 6, 7], [0, 1, 2, 3, 4, 5, 6, 7, 8], [0, 1, 2, 3, 4, 5, 6, 7], [0, 1, 2, 3, 4, 5, 6, 7], [0, 1, 2, 3, 4, 5, 6, 7], [0, 1, 2, 3, 4, 5, 6, 7, 8, 9, 10, 11, 12], [0, 1, 2, 3, 4, 5, 6, 7, 8, 9], [0, 1, 2, 3, 4, 5, 6, 7, 8, 9, 10], [0, 1, 2, 3, 4, 5, 6, 7, 8, 9, 10, 11, 12, 13, 14, 15], [0, 1, 2, 3, 4, 5, 6, 7, 8, 9, 10, 11, 12, 13, 14, 15, 16], [8, 9, 10, 11, 12, 13, 14, 15], []] (by kernel_rfl) (by rfl) fun K hK => ?_
      simp only [holes, alloc_HL, List.nil_append]
      refine sLex_pre 8 (by rfl) fun K2 hK2 => ?_
      simp [sOps, stillRd, regM, litOp, isReg, isLit, noTok, hx, hc]
      refine hK2 _ ?_
      clear hK2 K2
      refine sLex_pre 8 (by rfl) fun K2 hK2 => ?_
      simp [sOps, stillRd, regM, litOp, isReg, isLit, noTok, hx, hc]
      refine hK2 _ ?_
      clear hK2 K2
      refine sLex_eff rfl rfl rfl rfl rfl fun K2 hK2 => ?_
      simp
      refine hK2 _ _ (fun _ => by simp [Det, fillAt]) (by simp) ?_
      clear hK2 K2
      refine sLex_self (v := .ref (nid H.next 0) 0) rfl rfl (det_late rfl rfl rfl (by simp; rfl) rfl (by simp)) ?_ ?_
      · intro p hp hu
        simp only [List.mem_singleton] at hp
        subst hp
        exact det_late rfl rfl rfl (by simp; rfl) rfl (by simp)
      refine sLex_effA rfl rfl rfl rfl rfl rfl fun K2 hK2 => ?_
      simp [fillAt]
      refine hK2 _ _ (by simp [fillAt]) (by simp [unord]) ?_
      clear hK2 K2
      refine sLex_effA rfl rfl rfl rfl rfl rfl fun K2 hK2 => ?_
      simp [fillAt]
      refine hK2 _ _ (by simp [fillAt]) (by simp [unord]) ?_
      clear hK2 K2
      refine sLex_end ?_
      simp [fillAt]
      refine hK _ _ ?_
      clear hK K
      repeat with_reducible refine awp_assoc ?_
      refine awp_sr fun K hK => ?_
      refine aOps_split 6 fun K hK => ?_
      simp
      refine hK _ _ ?_
      clear hK K
      simp
      refine hK _ _ ?_
      clear hK K
      repeat with_reducible refine awp_assoc ?_
      refine awp_seq_k fun K hK => ?_
      refine awp_condF rfl (by simp) ?_
      refine awp_skip ?_
      refine hK _ _ ?_
      clear hK K
      repeat with_reducible refine awp_assoc ?_
      refine awp_sr fun K hK => ?_
      simp
      refine hK _ _ ?_
      clear hK K
      refine awp_hide fun Q2 hQ2 => ?_
      refine awp_block ?_
      refine awp_up cl.length (fun i => Env.ofL [(0, .slice (l.map Dat.cells) none), (1, .slice (l.map Dat.cells) none), (5, intV k), (6, intV j), (7, .ref (nid H.next 1) 0), (8, .ref (nid H.next 0) 0), (9, intV i)]) (fun i => HL H [.cells [strV cn, .slice (cl.map Ty.cells) none], .cells [strV cn, .slice (cl.map Ty.cells) none]]) (fun _ => True) (weak_HL hcl rfl (by simp [low_map]) (by simp [low_map])) (trivial) (fun i hi hvi => ?_) (fun hvi => ?_)
      · obtain ⟨a, ha⟩ : ∃ a, cl[i]? = some a := ⟨_, List.getElem?_eq_getElem hi⟩
        have h6 := same_c a a (h5 a (List.mem_of_getElem? ha))
        rw [eqT_me] at h6
        obtain ⟨an, al⟩ := a
        simp only [enc_mk] at h6
        repeat with_reducible refine awp_assoc ?_
        refine awp_sr fun K hK => ?_
        simp [hi]
        refine hK _ _ ?_
        clear hK K
        repeat with_reducible refine awp_assoc ?_
        refine awp_seq_k fun K hK => ?_
        refine awp_condT rfl (by simp) ?_
        refine awp_skip ?_
        refine hK _ _ ?_
        clear hK K
        refine awp_seq_k fun KD hKD => ?_
        refine awp_block ?_
        repeat with_reducible refine awp_assoc ?_
        refine awp_sdc [] [[], [], [0, 1], [], [], [0, 1, 2, 3, 4], [0, 1, 2, 3, 4], [0, 1, 2, 3, 4, 5, 6], [0, 1, 2, 3, 4], [0, 1, 2, 3, 4], [0, 5], [0, 1, 2, 5, 6, 7]] (by kernel_rfl) (by rfl) fun K hK => ?_
        refine aCalm_pre 5 (by rfl) fun K hK => ?_
        simp [ha, Ty.cells]
        refine hK _ _ ?_
        clear hK K
        refine aCalm_pre 5 (by rfl) fun K hK => ?_
        simp [ha, Ty.cells]
        refine hK _ _ ?_
        clear hK K
        refine aCalm_call0 (h6 _) (by first | rfl | simp) rfl rfl rfl (by first | (simp; done) | rfl) ?_
        refine aCalm_pre 1 (by rfl) fun K hK => ?_
        simp
        refine hK _ _ ?_
        clear hK K
        refine aCalm_end ?_
        simp
        refine hK _ _ ?_
        clear hK K
        refine awp_condF rfl (by simp) ?_
        refine awp_skip ?_
        refine hKD _ _ ?_
        clear hKD
        refine awp_region ?_
        simp [wrap_succ (show i < 4611686018427387904 by omega)]
        exact weak_HL hcl rfl (by simp [low_map]) (by simp [low_map])
      repeat with_reducible refine awp_assoc ?_
      refine awp_sr fun K hK => ?_
      simp
      refine hK _ _ ?_
      clear hK K
      repeat with_reducible refine awp_assoc ?_
      refine awp_seq_k fun K hK => ?_
      refine awp_condF rfl (by simp) ?_
      refine awp_exit ?_
      simp
      refine hQ2 _ _ _ ?_
      refine hKC _ _ ?_
      clear hKC
      refine awp_region ?_
      simp [wrap_succ (show j < 4611686018427387904 by omega)]
      exact weak_HL hcl rfl (by simp) (by simp)
    repeat with_reducible refine awp_assoc ?_
    refine awp_sr fun K hK => ?_
    simp [hx]
    refine hK _ _ ?_
    clear hK K
    repeat with_reducible refine awp_assoc ?_
    refine awp_seq_k fun K hK => ?_
    refine awp_condF rfl (by simp) ?_
    refine awp_exit ?_
    simp
    refine hQ _ _ _ ?_
    refine hKB _ _ ?_
    clear hKB
    refine awp_region ?_
    simp [wrap_succ (show k < 4611686018427387904 by omega)]
    exact weak_HL hcl rfl (by simp) (by simp)
  repeat with_reducible refine awp_assoc ?_
  refine awp_sr fun K hK => ?_
  simp
  refine hK _ _ ?_
  clear hK K
  repeat with_reducible refine awp_assoc ?_
  refine awp_seq_k fun K hK => ?_
  refine awp_condF rfl (by simp) ?_
  refine awp_exit ?_
  simp
  clear hK K
  refine hK _ _ ?_
  clear hK K
  repeat with_reducible refine awp_assoc ?_
  refine awp_sr fun K hK => ?_
  simp
  refine hK _ _ ?_
  clear hK K
  simp [reset_all hcl]
end Go.Proofs.YthjmaemdjgajbaaGreat
