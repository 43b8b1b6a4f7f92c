/- Count; the law of what is told of declarations. -/
import Derived.Test.YthjmaemdjgajbaaGreatME7
import Derived.Test.YthjmaemdjgajbaaGreatMG3
import Derived.Test.YthjmaemdjgajbaaGreatMG4
set_option linter.unusedVariables false
set_option linter.unusedSimpArgs false
namespace Go.Proofs.YthjmaemdjgajbaaGreat
open Go Go.Abs Go.Proofs
set_option maxRecDepth 20000
attribute [local simp] aOps wantedA aStep aop aLoad aStore aBin aUn aFieldAddr aField aIndexAddr aIndex aLen aBuild aFill aAlloc aAppend aAppendOwn aMin aMax aBuildSlice litRows newRows isMut isOwn isNilS nilsW bytesR tokW tokAV tokL ret readC splice aeval isLit isLate isCut aCut AV.celled AV.one AV.ofValue Value.oneCell' Value.cells intOp strOp get_nid upd_nid awp aEnd aResults aResult Det unord isCall isNext
attribute [local simp] low_take low_strs low_comp low_tcomp wkEs_refl' WkBs WkEnv WkB WkL WkE WkO ABlock.low lowO lowL lowR AV.low cellsL_eq Ty.low low_map Ty.cells_length Ty.cells_one
attribute [local simp] ConD.cells Dat.cells PredD.cells SigD.cells ClsD.cells InstD.cells DeclsD.cells DeclsD.enc Dat.enc low_datL low_conL low_predL low_sigL low_clsL low_instL
theorem acalls_drop {P : Program} {f : FuncId} {xs : List AV} {H H1 : AHeap} {v v' : AV} (h : ACalls P f xs H v H1) (hr : H.Closed → Reset H1 H) (hw : Wk v v') (hl : v'.low H.next) : ACalls P f xs H v' H := by
  refine ⟨h.1, fun K w cargs hI ha => (h.2 K w cargs hI ha).mono fun e w' ⟨K', v1, x, H', h1, h2, h3, h4, h5⟩ => ?_⟩
  subst h4 h5
  exact ⟨K'.cut H.next, v', x, H, h1, Ext.reset hI h2 (hr hI.closed) (Nat.le_refl _), Rep.cut _ _ hl (hw K' w' x h3), rfl, rfl⟩
theorem dBase0_c (H : AHeap) : ACalls Tryz.prog 12 [] H (.slice (baseD.map Dat.cells) none) H := acalls_drop (base_c H) (fun h => reset_all h) (Wk.tok _ _) ⟨by simp, low_datL _ _⟩
theorem rBase0_c (H : AHeap) : ACalls Tryz.prog 13 [] H (.slice (baseD.map Dat.cells) none) H := acalls_drop (rBase_c H) (fun h => reset_all h) (Wk.tok _ _) ⟨by simp, low_datL _ _⟩
set_option maxHeartbeats 1000000 in
theorem dCountOk_c (d : DeclsD) (hr : RawD d) (hd : CntD d) (t : Ty) (ht : t.cnt < 1000000000000) (s : Nat) (hs : s ≤ 10) (hk : kindsD d t = 0) (f : Nat) (b : Bool) (hv : valF d f t.nodes [] = some b) (hvv : valV b t = 0) (g : Nat) (r : Nat × CM) (hc : cntF d g t s [] = some r) (hle : r.1 ≤ 1000000000) (H : AHeap) :
    ACalls Tryz.prog 20 [d.enc, t.enc, intV s] H (.tuple [intV r.1, intV 0]) H := by
  have hKi := Kinds_c d hr t
  rw [hk] at hKi
  have hV := dValued_c d hd t ht f b hv
  rw [hvv] at hV
  have hC := fun (H : AHeap) (si mi : Nat) (hne : si ≠ mi) => dCount_c d hd si mi hne g t s [] r (by omega) hc H
  have hs1 : ¬ (s : Int) < 0 := by omega
  have hs2 : ¬ (10 : Int) < (s : Int) := by omega
  have hle' : ¬ (1000000000 : Int) < (r.1 : Int) := by omega
  obtain ⟨tn, tl⟩ := t
  simp only [enc_mk] at hKi hV hC ⊢
  refine acalls_walk (fun _ => .imm) [0, 1, 2, 3, 4, 6, 7, 8, 9, 10, 15, 22, 27, 37] Tryz.mixed Tryz.func20 rfl rfl rfl (by decide) (fun hcl hlow => ?_)
  repeat with_reducible refine awp_assoc ?_
  refine awp_sr fun K hK => ?_
  simp
  refine hK _ _ ?_
  clear hK K
  repeat with_reducible refine awp_assoc ?_
  refine awp_sr fun K hK => ?_
  refine aOps_split 2 fun K hK => ?_
  simp
  refine hK _ _ ?_
  clear hK K
  refine aOps_call (hKi _) (by first | rfl | simp) rfl rfl (by first | (simp; done) | rfl) ?_
  simp
  refine hK _ _ ?_
  clear hK K
  repeat with_reducible refine awp_assoc ?_
  refine awp_sr fun K hK => ?_
  simp
  refine hK _ _ ?_
  clear hK K
  repeat with_reducible refine awp_assoc ?_
  refine awp_seq_k fun K hK => ?_
  refine awp_condF rfl (by simp) ?_
  refine awp_skip ?_
  refine hK _ _ ?_
  clear hK K
  repeat with_reducible refine awp_assoc ?_
  refine awp_sr fun K hK => ?_
  simp [hs1, hs2]
  refine hK _ _ ?_
  clear hK K
  repeat with_reducible refine awp_assoc ?_
  refine awp_seq_k fun K hK => ?_
  refine awp_condF rfl (by simp) ?_
  refine awp_skip ?_
  refine hK _ _ ?_
  clear hK K
  repeat with_reducible refine awp_assoc ?_
  refine awp_sr fun K hK => ?_
  refine aOps_split 2 fun K hK => ?_
  simp
  refine hK _ _ ?_
  clear hK K
  refine aOps_call (hV _) (by first | rfl | simp) rfl rfl (by first | (simp; done) | rfl) ?_
  simp
  refine hK _ _ ?_
  clear hK K
  repeat with_reducible refine awp_assoc ?_
  refine awp_sr fun K hK => ?_
  simp
  refine hK _ _ ?_
  clear hK K
  repeat with_reducible refine awp_assoc ?_
  refine awp_seq_k fun K hK => ?_
  refine awp_condF rfl (by simp) ?_
  refine awp_skip ?_
  refine hK _ _ ?_
  clear hK K
  have hcc : ACalls Tryz.prog 62 [.ref (nid H.next 3) 0, .agg [strV tn, .slice (tl.map Ty.cells) none], intV s] (HL H [.cells [.slice (d.datas.map Dat.cells) none, .slice (d.classes.map ClsD.cells) none, .slice (d.insts.map InstD.cells) none], .cells [strV tn, .slice (tl.map Ty.cells) none], .amap [] 0, .cells [.slice (d.datas.map Dat.cells) none, .slice (d.classes.map ClsD.cells) none, .slice (d.insts.map InstD.cells) none, .map (nid H.next 2)]])
      (intV r.1) (HL H [.cells [.slice (d.datas.map Dat.cells) none, .slice (d.classes.map ClsD.cells) none, .slice (d.insts.map InstD.cells) none], .cells [strV tn, .slice (tl.map Ty.cells) none], .amap (cmEs r.2) r.2.length, .cells [.slice (d.datas.map Dat.cells) none, .slice (d.classes.map ClsD.cells) none, .slice (d.insts.map InstD.cells) none, .map (nid H.next 2)]]) := by
    have := hC (HL H [.cells [.slice (d.datas.map Dat.cells) none, .slice (d.classes.map ClsD.cells) none, .slice (d.insts.map InstD.cells) none], .cells [strV tn, .slice (tl.map Ty.cells) none], .amap [] 0, .cells [.slice (d.datas.map Dat.cells) none, .slice (d.classes.map ClsD.cells) none, .slice (d.insts.map InstD.cells) none, .map (nid H.next 2)]]) (nid H.next 3) (nid H.next 2) (by unfold nid; omega) (by simp) (by simp [cmEs])
    simpa [cH] using this
  repeat with_reducible refine awp_assoc ?_
  refine awp_sr fun K hK => ?_
  refine aOps_split 6 fun K hK => ?_
  simp
  refine hK _ _ ?_
  clear hK K
  refine aOps_call (hcc) (by first | rfl | simp) rfl rfl (by first | (simp; done) | rfl) ?_
  simp
  refine hK _ _ ?_
  clear hK K
  repeat with_reducible refine awp_assoc ?_
  refine awp_sr fun K hK => ?_
  simp [hle']
  refine hK _ _ ?_
  clear hK K
  repeat with_reducible refine awp_assoc ?_
  refine awp_seq_k fun K hK => ?_
  refine awp_condF rfl (by simp) ?_
  refine awp_skip ?_
  refine hK _ _ ?_
  clear hK K
  repeat with_reducible refine awp_assoc ?_
  refine awp_sr fun K hK => ?_
  simp
  refine hK _ _ ?_
  clear hK K
  simp [reset_all hcl]
def d0 : DeclsD := ⟨[], [], []⟩
def t0 : Ty := .mk listN [.mk boolN []]
theorem known_raw : RawD d0 := by constructor <;> simp [d0]
theorem known_valid : validD d0 = 0 := by
  rw [validD_eq, if_neg (show ¬ largeB d0 = true by decide +kernel), if_neg (show ¬ argsB d0 = false by decide +kernel), if_neg (show ¬ allV (writtenD d0) ≠ 0 by decide +kernel), if_neg (show ¬ twiceB d0 = true by decide +kernel), if_neg (show ¬ noneB d0 = true by decide +kernel), if_neg (show ¬ fitB d0 = true by decide +kernel), if_neg (show ¬ loopB d0 = true by simp [loopB, d0]), if_neg (show ¬ ruleB d0 = true by simp [ruleB, d0])]
theorem known_kinds : kindsD d0 t0 = 0 := by
  have h4 : kindsV d0 4 t0 = 0 := by decide +kernel
  have h8 : kindsV d0 8 t0 = 0 := by decide +kernel
  unfold kindsD
  rw [if_pos known_valid, if_pos (show t0.valid = 0 by decide +kernel), if_pos h4, h8]
theorem named_in (d : DeclsD) (n : ByteArray) : (namedD d n).1 ∈ allD d ∨ (namedD d n).1 = ⟨intN, [], []⟩ ∨ (namedD d n).1 = zeroDat := by
  unfold namedD
  split
  · exact .inr (.inl rfl)
  · cases h : (allD d).find? fun x => decide (x.name = n) with
    | none => exact .inr (.inr rfl)
    | some x => exact .inl (List.mem_of_find?_eq_some h)
theorem cntD_of {d : DeclsD} (hr : RawD d) (h : validD d = 0) : CntD d := by
  have hac := all_copy hr h
  have key : ∀ n, (namedD d n).1.vars.length < 1000000000000 ∧ (namedD d n).1.cons.length < 1000000000000 ∧ ∀ c ∈ (namedD d n).1.cons, c.args.length < 1000000000000 ∧ ∀ t ∈ c.args, t.cnt < 1000000000000 := fun n => by
    rcases named_in d n with h1 | h1 | h1
    · exact hac _ h1
    · rw [h1]; simp
    · rw [h1]; simp [zeroDat]
  exact ⟨by have := (largeB_le (valid0 h).lg).1; omega, fun n => (key n).2.1, fun n => by have := (key n).1; omega, fun n => (key n).2.2⟩
theorem known_valued : valF d0 20 t0.nodes [] = some false := by
  decide +kernel
theorem known_vars : valV false t0 = 0 := by
  decide +kernel
theorem known_count : (cntF d0 20 t0 5 []).map (·.1) = some 4 := by
  decide +kernel
theorem known_c (H : AHeap) : ACalls Tryz.prog 17 [] H (boolV true) H := by
  obtain ⟨r, hr, hr1⟩ : ∃ r, cntF d0 20 t0 5 [] = some r ∧ r.1 = 4 := by
    have := known_count
    cases h : cntF d0 20 t0 5 [] with
    | none => rw [h] at this; cases this
    | some r => rw [h] at this; exact ⟨r, rfl, by simpa using this⟩
  have hc := dCountOk_c d0 known_raw (cntD_of known_raw known_valid) t0 (by decide) 5 (by decide) known_kinds 20 false known_valued known_vars 20 r hr (by omega)
  rw [hr1] at hc
  simp only [d0, t0, enc_mk, DeclsD.enc, DeclsD.cells, List.map_nil, List.map_cons, Ty.cells, cellsL_eq] at hc
  refine acalls_walk (fun _ => .imm) [0, 1, 2] Tryz.mixed Tryz.func17 rfl rfl rfl (by decide) (fun hcl hlow => ?_)
  repeat with_reducible refine awp_assoc ?_
  refine awp_sr fun K hK => ?_
  simp
  refine hK _ _ ?_
  clear hK K
  repeat with_reducible refine awp_assoc ?_
  refine awp_sr fun K hK => ?_
  refine aOps_split 4 fun K hK => ?_
  simp
  refine hK _ _ ?_
  clear hK K
  refine aOps_callW (hc _) (by first | rfl | simp) rfl rfl ⟨Wk.agg ⟨Wk.nilSlice, Wk.nilSlice, Wk.nilSlice, trivial⟩, Wk.agg ⟨.refl _, Wk.slice ⟨⟨.refl _, Wk.nilSlice, trivial⟩, trivial⟩, trivial⟩, .refl _, trivial⟩ ?_
  simp
  refine hK _ _ ?_
  clear hK K
  repeat with_reducible refine awp_assoc ?_
  refine awp_sr fun K hK => ?_
  simp
  refine hK _ _ ?_
  clear hK K
  simp [reset_all hcl]
theorem sup_len {d : DeclsD} (hr : RawD d) (n : ByteArray) : (supersD d n).1.length ≤ 12 := by
  unfold supersD
  split
  · rename_i hv
    split
    · simp
    · obtain ⟨⟨f, hf⟩, hl⟩ := (clsOk_of hr (valid0 hv).lg (valid0 hv).no).ab n
      rw [show (sortS (abv d.classes n), (0 : Int)).1 = sortS (abv d.classes n) from rfl, (sortS_perm _).length_eq]
      exact hl
  · simp
set_option maxHeartbeats 2000000 in
theorem law_c (d : DeclsD) (hr : RawD d) (t : Ty) (n : ByteArray) (H : AHeap) : ACalls Tryz.prog 3 [d.enc, t.enc, strV n] H (boolV true) H := by
  have c1 := dCon_c d hr n
  have c2 := rCon_c d hr n
  have c3 := Supers_c d hr n
  have c4 := rSupers_c d hr n
  have c5 := dValidate_c d hr
  have c6 := rValid_c d hr
  have c7 := Kinds_c d hr t
  have c8 := rKinds_c d hr t
  have c9 := sameDatas_c baseD (by decide) (by decide +kernel) (by decide +kernel) (by decide +kernel)
  have c10 : ∀ H, ACalls Tryz.prog 11 [.slice [(conD d n).1.cells] none, .slice [(conD d n).1.cells] none] H (boolV true) H := by
    have hx : (conD d n).1.vars.length < 4611686018427387904 ∧ (conD d n).1.cons.length < 4611686018427387904 ∧ ∀ c ∈ (conD d n).1.cons, c.args.length < 4611686018427387904 ∧ ∀ t ∈ c.args, t.cnt < 4611686018427387904 := by
      unfold conD
      split
      · rename_i hv
        cases hf : findC (allD d) n with
        | none => simp [zeroDat]
        | some p =>
          obtain ⟨x, k⟩ := p
          have hm : x ∈ allD d := by
            unfold findC at hf
            obtain ⟨y, hy, h2⟩ := List.exists_of_findSome?_eq_some hf
            rw [Option.map_eq_some_iff] at h2
            obtain ⟨k2, _, h3⟩ := h2
            simp only [Prod.mk.injEq] at h3
            rw [← h3.1]; exact hy
          have h := all_copy hr hv x hm
          exact ⟨by have := h.1; show x.vars.length < _; omega, by have := h.2.1; show x.cons.length < _; omega, fun c hc => ⟨by have := (h.2.2 c hc).1; omega, fun t ht => by have := (h.2.2 c hc).2 t ht; omega⟩⟩
      · simp [zeroDat]
    have := sameDatas_c [(conD d n).1] (by simp) (by simpa using hx.1) (by simpa using hx.2.1) (by simpa using hx.2.2)
    simpa using this
  have c11 := sameTexts_c (supersD d n).1 (supersD d n).1 (by have := sup_len hr n; omega)
  simp only [decide_true] at c11
  have c12 := known_c
  generalize conD d n = cd at *
  generalize supersD d n = sd at *
  generalize validD d = vd at *
  generalize kindsD d t = kd at *
  obtain ⟨⟨xn, xv, xc⟩, k, e⟩ := cd
  obtain ⟨sl, se⟩ := sd
  obtain ⟨tn, tl⟩ := t
  simp only [enc_mk, Dat.enc, Dat.cells] at *
  refine acalls_walk (fun d => if d = 55 ∨ d = 57 then .lit else .imm) [0, 1, 2, 3, 4, 6, 7, 8, 9, 10, 11, 12, 13, 14, 15, 16] Tryz.mixed Tryz.func3 rfl rfl rfl (by decide) (fun hcl hlow => ?_)
  repeat with_reducible refine awp_assoc ?_
  refine awp_sr fun K hK => ?_
  simp
  refine hK _ _ ?_
  clear hK K
  repeat with_reducible refine awp_assoc ?_
  refine awp_sr fun K hK => ?_
  refine aOps_split 2 fun K hK => ?_
  simp
  refine hK _ _ ?_
  clear hK K
  refine aOps_call (c1 _) (by first | rfl | simp) rfl rfl (by first | (simp; done) | rfl) ?_
  refine aOps_split 6 fun K hK => ?_
  simp
  refine hK _ _ ?_
  clear hK K
  simp
  refine hK _ _ ?_
  clear hK K
  repeat with_reducible refine awp_assoc ?_
  refine awp_sr fun K hK => ?_
  refine aOps_split 2 fun K hK => ?_
  simp
  refine hK _ _ ?_
  clear hK K
  refine aOps_call (c2 _) (by first | rfl | simp) rfl rfl (by first | (simp; done) | rfl) ?_
  refine aOps_split 6 fun K hK => ?_
  simp
  refine hK _ _ ?_
  clear hK K
  simp
  refine hK _ _ ?_
  clear hK K
  repeat with_reducible refine awp_assoc ?_
  refine awp_sr fun K hK => ?_
  refine aOps_split 2 fun K hK => ?_
  simp
  refine hK _ _ ?_
  clear hK K
  refine aOps_call (c3 _) (by first | rfl | simp) rfl rfl (by first | (simp; done) | rfl) ?_
  simp
  refine hK _ _ ?_
  clear hK K
  repeat with_reducible refine awp_assoc ?_
  refine awp_sr fun K hK => ?_
  refine aOps_split 2 fun K hK => ?_
  simp
  refine hK _ _ ?_
  clear hK K
  refine aOps_call (c4 _) (by first | rfl | simp) rfl rfl (by first | (simp; done) | rfl) ?_
  simp
  refine hK _ _ ?_
  clear hK K
  repeat with_reducible refine awp_assoc ?_
  refine awp_sdc [] [[], [], [0, 1], [], [], [], [0], [0], [0], [0], [0, 1, 2], [0, 1, 2, 3, 4], [0, 1, 2, 3, 4], [0, 1, 2, 3, 4, 11, 12], [0, 1, 2, 3, 4, 11, 12], [0, 1, 2, 3, 4], [0, 1, 2, 3, 4], [0, 1, 2, 3, 4, 5, 6, 7], [0, 1, 2, 3, 4, 5, 6, 7, 8, 9, 11, 13], [0, 1, 2, 3, 4, 5, 6, 7, 8, 9, 11, 13, 18], [0, 1, 2, 3, 4, 5, 6, 7, 8, 9, 11, 13], [0, 1, 2, 3, 4, 5, 6, 7, 8, 9, 11, 13], [0, 1, 2, 3, 4, 5, 6, 7, 8, 9, 11, 13], [0, 1, 2, 3, 4, 5, 6, 7, 8, 9, 10, 11, 12, 13, 14, 18, 19], [0, 1, 2, 3, 4, 5, 6, 7, 8, 9, 10, 11, 12, 13, 14, 18, 19, 23], [0, 1, 2, 3, 4, 5, 6, 7, 8, 9, 10, 11, 12, 13, 14, 18, 19], [0, 1, 2, 3, 4, 5, 6, 7, 8, 9, 10, 11, 12, 13, 14, 18, 19], [0, 1, 2, 3, 4, 5, 6, 7, 8, 9, 10, 11, 12, 13, 14, 18, 19], [0, 1, 2, 3, 4, 5, 6, 7, 8, 9, 10, 11, 12, 13, 14, 15, 16, 18, 19, 20, 23, 24], [0, 1, 2, 3, 4, 5, 6, 7, 8, 9, 10, 11, 12, 13, 14, 15, 16, 18, 19, 20, 23, 24, 28], [0, 1, 2, 3, 4, 5, 6, 7, 8, 9, 10, 11, 12, 13, 14, 15, 16, 18, 19, 20, 23, 24], [0, 1, 2, 3, 4, 5, 6, 7, 8, 9, 10, 11, 12, 13, 14, 15, 16, 18, 19, 20, 23, 24], [0, 1, 2, 3, 4, 5, 6, 7, 8, 9, 10, 11, 12, 13, 14, 15, 16, 17, 18, 19, 20, 21, 23, 24, 25], [0, 1, 2, 3, 4, 5, 6, 7, 8, 9, 10, 11, 12, 13, 14, 15, 16, 17, 18, 19, 20, 21, 22, 23, 24, 25, 26], [0, 1, 2, 3, 4, 5, 6, 7, 8, 9, 10, 11, 12, 13, 14, 15, 16, 17, 18, 19, 20, 21, 22, 23, 24, 25, 26, 33], [0, 1, 2, 3, 4, 5, 6, 7, 8, 9, 10, 11, 12, 13, 14, 15, 16, 17, 18, 19, 20, 21, 22, 23, 24, 25, 26], [0, 1, 2, 3, 4, 5, 6, 7, 8, 9, 10, 11, 12, 13, 14, 15, 16, 17, 18, 19, 20, 21, 22, 23, 24, 25, 26], [0, 1, 2, 3, 4, 5, 6, 7, 8, 9, 10, 11, 12, 13, 14, 15, 16, 17, 18, 19, 20, 21, 22, 23, 24, 25, 26], [0, 1, 2, 3, 4, 5, 6, 7, 8, 9, 10, 11, 12, 13, 14, 15, 16, 17, 18, 19, 20, 21, 22, 23, 24, 25, 26, 27, 28, 29, 33, 34], [0, 1, 2, 3, 4, 5, 6, 7, 8, 9, 10, 11, 12, 13, 14, 15, 16, 17, 18, 19, 20, 21, 22, 23, 24, 25, 26, 27, 28, 29, 33, 34, 38], [0, 1, 2, 3, 4, 5, 6, 7, 8, 9, 10, 11, 12, 13, 14, 15, 16, 17, 18, 19, 20, 21, 22, 23, 24, 25, 26, 27, 28, 29, 33, 34], [0, 1, 2, 3, 4, 5, 6, 7, 8, 9, 10, 11, 12, 13, 14, 15, 16, 17, 18, 19, 20, 21, 22, 23, 24, 25, 26, 27, 28, 29, 33, 34, 38, 39, 40], [0, 1, 2, 3, 4, 5, 6, 7, 8, 9, 10, 11, 12, 13, 14, 15, 16, 17, 18, 19, 20, 21, 22, 23, 24, 25, 26, 27, 28, 29, 33, 34, 38, 39, 40, 41], [0, 1, 2, 3, 4, 5, 6, 7, 8, 9, 10, 11, 12, 13, 14, 15, 16, 17, 18, 19, 20, 21, 22, 23, 24, 25, 26, 27, 28, 29, 33, 34], [0, 1, 2, 3, 4, 5, 6, 7, 8, 9, 10, 11, 12, 13, 14, 15, 16, 17, 18, 19, 20, 21, 22, 23, 24, 25, 26, 27, 28, 29, 33, 34], [0, 1, 2, 3, 4, 5, 6, 7, 8, 9, 10, 11, 12, 13, 14, 15, 16, 17, 18, 19, 20, 21, 22, 23, 24, 25, 26, 27, 28, 29, 33, 34], [0, 1, 2, 3, 4, 5, 6, 7, 8, 9, 10, 11, 12, 13, 14, 15, 16, 17, 18, 19, 20, 21, 22, 23, 24, 25, 26, 27, 28, 29, 30, 31, 33, 34, 35], [0, 1, 2, 3, 4, 5, 6, 7, 8, 9, 10, 11, 12, 13, 14, 15, 16, 17, 18, 19, 20, 21, 22, 23, 24, 25, 26, 27, 28, 29, 30, 31, 32, 33, 34, 35, 36, 38, 39], [0, 1, 2, 3, 4, 5, 6, 7, 8, 9, 10, 11, 12, 13, 14, 15, 16, 17, 18, 19, 20, 21, 22, 23, 24, 25, 26, 27, 28, 29, 30, 31, 32, 33, 34, 35, 36, 38, 39], []] (by kernel_rfl) (by rfl) fun K hK => ?_
  refine aCalm_pre 1 (by rfl) fun K hK => ?_
  simp
  refine hK _ _ ?_
  clear hK K
  refine aCalm_call0 (c5 _) (by first | rfl | simp) rfl rfl rfl (by first | (simp; done) | rfl) ?_
  refine aCalm_pre 1 (by rfl) fun K hK => ?_
  simp
  refine hK _ _ ?_
  clear hK K
  refine aCalm_call0 (c6 _) (by first | rfl | simp) rfl rfl rfl (by first | (simp; done) | rfl) ?_
  refine aCalm_pre 2 (by rfl) fun K hK => ?_
  simp
  refine hK _ _ ?_
  clear hK K
  refine aCalm_call0 (dBase0_c _) (by first | rfl | simp) rfl rfl rfl (by first | (simp; done) | rfl) ?_
  refine aCalm_call0 (rBase0_c _) (by first | rfl | simp) rfl rfl rfl (by first | (simp; done) | rfl) ?_
  refine aCalm_call0 (c9 _) (by first | rfl | simp) rfl rfl rfl (by first | (simp; done) | rfl) ?_
  refine aCalm_pre 6 (by rfl) fun K hK => ?_
  simp
  refine hK _ _ ?_
  clear hK K
  refine aCalm_call0 (c10 _) (by first | rfl | simp) rfl rfl rfl (by first | (simp; done) | rfl) ?_
  refine aCalm_pre 7 (by rfl) fun K hK => ?_
  simp
  refine hK _ _ ?_
  clear hK K
  refine aCalm_pre 7 (by rfl) fun K hK => ?_
  simp
  refine hK _ _ ?_
  clear hK K
  refine aCalm_call0 (c11 _) (by first | rfl | simp) rfl rfl rfl (by first | (simp; done) | rfl) ?_
  refine aCalm_pre 5 (by rfl) fun K hK => ?_
  simp
  refine hK _ _ ?_
  clear hK K
  refine aCalm_pre 4 (by rfl) fun K hK => ?_
  simp
  refine hK _ _ ?_
  clear hK K
  refine aCalm_call0 (c7 _) (by first | rfl | simp) rfl rfl rfl (by first | (simp; done) | rfl) ?_
  refine aCalm_pre 2 (by rfl) fun K hK => ?_
  simp
  refine hK _ _ ?_
  clear hK K
  refine aCalm_call0 (c8 _) (by first | rfl | simp) rfl rfl rfl (by first | (simp; done) | rfl) ?_
  refine aCalm_pre 3 (by rfl) fun K hK => ?_
  simp
  refine hK _ _ ?_
  clear hK K
  refine aCalm_call0 (c12 _) (by first | rfl | simp) rfl rfl rfl (by first | (simp; done) | rfl) ?_
  refine aCalm_pre 2 (by rfl) fun K hK => ?_
  simp
  refine hK _ _ ?_
  clear hK K
  refine aCalm_end ?_
  simp
  refine hK _ _ ?_
  clear hK K
  simp [reset_all hcl]
end Go.Proofs.YthjmaemdjgajbaaGreat
