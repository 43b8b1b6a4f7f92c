/- The reference's answers and the program's: where they are the same. -/
import Derived.Test.YthjmaemdjgajbaaGreatMD9
import Derived.Test.YthjmaemdjgajbaaGreatME5
import Derived.Test.YthjmaemdjgajbaaGreatME4
import Derived.Test.YthjmaemdjgajbaaGreatME3
import Derived.Test.YthjmaemdjgajbaaGreatMD7
set_option linter.unusedVariables false
set_option linter.unusedSimpArgs false
namespace Go.Proofs.YthjmaemdjgajbaaGreat
open Go Go.Abs Go.Proofs
theorem valid_good {t : Ty} (h : t.valid = 0) : t.good = true := by
  unfold Ty.valid at h
  cases hg : t.good with
  | true => rfl
  | false =>
    rw [hg] at h
    split at h
    · exact absurd h (by decide)
    · simp at h
theorem good_node {t n : Ty} (h : t.good = true) (hn : n ∈ t.nodes) : n.node = true := List.all_eq_true.1 h n hn
theorem arrow_head : headP smallB arrowN = false := by decide
theorem small_head {s : ByteArray} (h : smallN s = true) : headP smallB s = true := by
  unfold smallN at h
  simp only [Bool.and_eq_true] at h
  exact h.1.2
theorem node_var {n : Ty} (h : n.node = true) : n.isVar = dVarB n := by
  unfold Ty.node at h
  unfold dVarB
  by_cases ha : n.name = arrowN
  · rw [if_pos ha] at h
    have h1 : n.isVar = false := by unfold Ty.isVar; rw [ha]; exact arrow_head
    have h2 : n.args ≠ [] := fun h3 => by rw [h3] at h; simp at h
    rw [h1]
    simp [h2]
  rw [if_neg ha] at h
  by_cases hv : n.isVar = true
  · rw [if_pos hv] at h
    simp only [Bool.and_eq_true, decide_eq_true_eq] at h
    have h2 : n.args = [] := by cases hl : n.args with | nil => rfl | cons a l => rw [hl] at h; simp at h; omega
    rw [hv, h.1]
    simp [h2]
  · have hs : smallN n.name = false := by
      cases hs : smallN n.name with
      | false => rfl
      | true => exact absurd (small_head hs) hv
    rw [hs]
    simpa using hv
theorem badT_kind (d : DeclsD) {n : Ty} (h : n.node = true) : badT (allD d) n = kindB d 4 n := by
  unfold badT kindB
  rw [node_var h]
  rcases named_find d n.name with ⟨h0, h1⟩ | ⟨h0, h1, h2⟩ | ⟨h0, i, y, h1, h2, h3⟩
  · rw [h1]; simp [h0]
  · rw [h2]; simp [h0, h1]
  · have : ¬ ((i : Int) < 0) := by omega
    rw [h3]; simp [h0, h1, this]
theorem any_nodes {p q : Ty → Bool} {t : Ty} (hg : t.good = true) (h : ∀ n : Ty, n.node = true → p n = q n) : t.nodes.any p = t.nodes.any q := by
  have hh : ∀ n ∈ t.nodes, p n = q n := fun n hn => h n (good_node hg hn)
  generalize t.nodes = l at hh
  induction l with
  | nil => rfl
  | cons a l ih => simp only [List.any_cons]; rw [hh a (by simp), ih fun n hn => hh n (by simp [hn])]
theorem any_same {α : Type} {p q : α → Bool} {l : List α} (h : ∀ x ∈ l, p x = q x) : l.any p = l.any q := by
  induction l with
  | nil => rfl
  | cons a l ih => simp only [List.any_cons]; rw [h a (by simp), ih fun n hn => h n (by simp [hn])]
theorem badK_any (d : DeclsD) (w : Int) (hw : w ≠ 0) (t : Ty) : badK d w t = t.nodes.any (kindB d w) := by
  unfold badK kindsV
  cases t.nodes.any (kindB d w) <;> simp [hw]
theorem none_same {d : DeclsD} (hv : allV (writtenD d) = 0) : rNoneB d = noneB d := by
  unfold rNoneB noneB
  congr 2
  refine any_same fun t ht => ?_
  rw [badK_any d 4 (by decide)]
  exact any_nodes (valid_good (allV_mem hv t ht)) fun n hn => badT_kind d hn
theorem nameStep_mem' {s : ByteArray} {out : List ByteArray} {t : Ty} : s ∈ nameStep out t ↔ s ∈ out ∨ (t.isVar = true ∧ t.name = s) := by
  unfold nameStep
  by_cases hv : t.isVar = true
  · rw [if_pos hv]
    split
    · rename_i hm
      refine ⟨.inl, ?_⟩
      rintro (h | ⟨_, rfl⟩)
      · exact h
      · exact memS_iff.1 hm
    · simp [hv, eq_comm]
  · rw [if_neg hv]; simp [hv]
theorem fold_mem' {s : ByteArray} : ∀ {L : List Ty} {out : List ByteArray}, s ∈ L.foldl nameStep out ↔ s ∈ out ∨ ∃ x ∈ L, x.isVar = true ∧ x.name = s
  | [], out => by simp
  | t :: L, out => by
    rw [List.foldl_cons, fold_mem', nameStep_mem']
    simp only [List.mem_cons, exists_eq_or_imp, or_assoc]
theorem mem_nodesL' {x : Ty} : ∀ {l : List Ty}, x ∈ nodesL l ↔ ∃ t ∈ l, x ∈ t.nodes
  | [] => by simp [nodesL]
  | t :: ts => by simp [nodesL, mem_nodesL' (l := ts)]
theorem conFit_same {x : Dat} {c : ConD} (hg : ∀ t ∈ c.args, t.good = true) : rConFit x c = c.args.any fun t => t.nodes.any (alien x) := by
  unfold rConFit
  rw [Bool.eq_iff_iff]
  simp only [List.any_eq_true]
  constructor
  · rintro ⟨s, hs, hb⟩
    unfold namesL at hs
    rw [fold_mem'] at hs
    simp only [List.not_mem_nil, false_or] at hs
    obtain ⟨n, hn, hv, rfl⟩ := hs
    obtain ⟨t, ht, hnt⟩ := mem_nodesL'.1 hn
    refine ⟨t, ht, n, hnt, ?_⟩
    unfold alien
    rw [← node_var (good_node (hg t ht) hnt), hv]
    simpa using hb
  · rintro ⟨t, ht, n, hnt, hb⟩
    unfold alien at hb
    rw [← node_var (good_node (hg t ht) hnt)] at hb
    simp only [Bool.and_eq_true] at hb
    refine ⟨n.name, ?_, hb.2⟩
    unfold namesL
    rw [fold_mem']
    exact .inr ⟨n, mem_nodesL'.2 ⟨t, ht, hnt⟩, hb.1, rfl⟩
theorem great_not_arrow : greatN arrowN = false := by decide
theorem great_not_small {s : ByteArray} (h : greatN s = true) : smallN s = false := by
  cases hs : smallN s with
  | false => rfl
  | true =>
    have h1 := small_head hs
    unfold greatN at h
    simp only [Bool.and_eq_true] at h
    have h2 := h.2
    unfold headP at h1 h2
    cases hc : s.data.toList[0]? with
    | none => rw [hc] at h1; cases h1
    | some c =>
      rw [hc] at h1 h2
      simp only [smallB, greatB, Bool.and_eq_true, decide_eq_true_eq] at h1 h2
      omega
theorem badA_kind (d : DeclsD) (hgr : ∀ x ∈ allD d, greatN x.name = true) (hni : ∀ x ∈ allD d, x.name ≠ intN) (n : Ty) : badA (allD d) n = kindB d 8 n := by
  unfold badA kindB
  rcases named_find d n.name with ⟨h0, h1⟩ | ⟨h0, h1, h2⟩ | ⟨h0, i, y, h1, h2, h3⟩
  · have hf : (allD d).find? (fun x => decide (x.name = n.name)) = none := by
      rw [List.find?_eq_none]
      intro x hx
      simpa [h0] using hni x hx
    have hd : dVarB n = false := by
      unfold dVarB
      have : smallN n.name = false := by rw [h0]; decide
      simp [this]
    have ha : n.name ≠ arrowN := by rw [h0]; decide
    have ha' : intN ≠ arrowN := by decide
    rw [hf, h1, hd]
    simp [h0, ha']
  · rw [findI_none h1, h2]
    simp [h0]
  · have hf : (allD d).find? (fun x => decide (x.name = n.name)) = some y := by
      obtain ⟨i', y', e1, e2, e3⟩ := findI_some (l := allD d) (n := n.name) (by rw [h1]; omega)
      rw [h1] at e1
      have : i = i' := by omega
      subst this
      rw [h2] at e2
      cases e2
      exact e3
    have hym := List.mem_of_getElem? h2
    have hyn : y.name = n.name := by simpa using List.find?_some hf
    have hgn : greatN n.name = true := by rw [← hyn]; exact hgr y hym
    have hd : dVarB n = false := by
      unfold dVarB
      rw [great_not_small hgn]
      simp
    have ha : n.name ≠ arrowN := fun h => by rw [h, great_not_arrow] at hgn; cases hgn
    rw [hf, h3, hd]
    simp [h0, ha]
theorem fit_same {d : DeclsD} (hv : allV (writtenD d) = 0) (hgr : ∀ x ∈ allD d, greatN x.name = true) (hni : ∀ x ∈ allD d, x.name ≠ intN) : rFitB d = fitB d := by
  unfold rFitB fitB
  congr 1
  · refine any_same fun t ht => ?_
    rw [badK_any d 8 (by decide)]
    exact any_same fun n _ => badA_kind d hgr hni n
  · refine any_same fun x hx => ?_
    unfold rDatFit datFit
    exact any_same fun c hc => conFit_same fun t ht => valid_good (allV_mem hv t (written_con hx hc ht))
theorem opBad_same {o : SigD} (hg : o.t.good = true) : rOpBad o = opBad o := by
  unfold rOpBad opBad
  congr 1
  rw [Bool.eq_iff_iff, memS_iff, fold_mem', List.any_eq_true]
  simp only [List.not_mem_nil, false_or]
  constructor
  · rintro ⟨n, hn, hv, he⟩
    refine ⟨n, hn, ?_⟩
    unfold aVar
    rw [← node_var (good_node hg hn), hv, he]
    simp
  · rintro ⟨n, hn, hb⟩
    unfold aVar at hb
    rw [← node_var (good_node hg hn)] at hb
    simp only [Bool.and_eq_true, decide_eq_true_eq] at hb
    exact ⟨n, hn, hb.1, hb.2⟩
theorem rule_same {d : DeclsD} (hv : allV (writtenD d) = 0) : rRuleB d = ruleB d := by
  unfold rRuleB ruleB
  congr 1
  refine any_same fun x hx => any_same fun o ho => opBad_same (valid_good (allV_mem hv _ (written_op hx ho)))
theorem all_great {d : DeclsD} (h : argsB d = true) : ∀ x ∈ allD d, greatN x.name = true := by
  intro x hx
  unfold allD at hx
  rcases List.mem_append.1 hx with h1 | h1
  · have hb : ∀ y ∈ baseD, greatN y.name = true := by decide
    exact hb x h1
  · unfold argsB at h
    simp only [Bool.and_eq_true] at h
    have := all_ok h.1.1 x h1
    unfold isDataB at this
    simp only [Bool.and_eq_true] at this
    exact this.1.1.1
theorem all_notInt {d : DeclsD} (h : twiceB d = false) : ∀ x ∈ allD d, x.name ≠ intN := by
  intro x hx he
  unfold twiceB at h
  simp only [Bool.or_eq_false_iff] at h
  have h1 : nodupB (intN :: (allD d).map Dat.name) = true := by simpa using h.1.1.1.1.2
  unfold nodupB at h1
  have h2 := of_decide_eq_true h1
  rw [List.nodup_cons] at h2
  exact h2.1 (he ▸ List.mem_map_of_mem hx)
set_option maxRecDepth 20000
attribute [local simp] aOps wantedA aStep aop aLoad aStore aBin aUn aFieldAddr aField aIndexAddr aIndex aLen aBuild aFill aAlloc aAppend aAppendOwn aMin aMax aBuildSlice litRows newRows isMut isOwn isNilS nilsW bytesR tokW tokAV tokL ret readC splice aeval isLit isLate isCut aCut AV.celled AV.one AV.ofValue Value.oneCell' Value.cells intOp strOp get_nid upd_nid awp aEnd aResults aResult Det unord isCall isNext
attribute [local simp] low_take low_strs low_comp low_tcomp wkEs_refl' WkBs WkEnv WkB WkL WkE WkO ABlock.low lowO lowL lowR AV.low cellsL_eq Ty.low low_map Ty.cells_length Ty.cells_one
attribute [local simp] ConD.cells Dat.cells PredD.cells SigD.cells ClsD.cells InstD.cells DeclsD.cells DeclsD.enc Dat.enc low_datL low_conL low_predL low_sigL low_clsL low_instL
theorem validD_eq (d : DeclsD) : validD d = if largeB d = true then 3 else if argsB d = false then 1 else if allV (writtenD d) ≠ 0 then allV (writtenD d) else if twiceB d = true then 5 else if noneB d = true then 4 else if fitB d = true then 8 else if loopB d = true then 10 else if ruleB d = true then 7 else 0 := by
  unfold validD validL
  cases largeB d <;> cases argsB d <;> simp [firstNZ]
  by_cases h : allV (writtenD d) = 0
  · cases twiceB d <;> cases noneB d <;> cases fitB d <;> cases loopB d <;> cases ruleB d <;> simp [h]
  · simp [h]
set_option maxHeartbeats 2000000 in
theorem rValid_c (d : DeclsD) (hr : RawD d) (H : AHeap) : ACalls Tryz.prog 10 [d.enc] H (intV (validD d)) H := by
  have e0 := validD_eq d
  have c1 := rIsLarge_c d hr
  have c2 : largeB d = false → ∀ H, ACalls Tryz.prog 43 [d.enc] H (boolV (argsB d)) H := fun h => rIsDescribed_c d hr (by have := largeB_le h; omega)
  have hwl : largeB d = false → argsB d = true → (writtenD d).length ≤ 4000 := fun h h2 => written_len h (named1 h2)
  have c3 : largeB d = false → argsB d = true → ∀ H, ACalls Tryz.prog 44 [d.enc] H (.slice ((writtenD d).map Ty.cells) none) H := fun h h2 => rWritten_c d hr (by have := hwl h h2; omega)
  have hwt : allV (writtenD d) = 0 → ∀ t ∈ writtenD d, t.cnt < 1000000000000 := fun h t ht => by have := valid_cnt2 (allV_mem h t ht); omega
  have c4 : largeB d = false → argsB d = true → ∀ H, ACalls Tryz.prog 46 [d.enc] H (boolV (twiceB d)) H := fun hlg har H => by
    have hn := named1 har
    have hl := largeB_le hlg
    have ham := allD_mem hlg hn
    have hal : (allD d).length ≤ 35 := by unfold allD; rw [List.length_append]; have : baseD.length = 5 := rfl; omega
    have h1 : ((allD d).flatMap cnames).length ≤ (allD d).length * 16 := flat_le fun x hx => by unfold cnames; rw [List.length_map]; exact (ham x hx).2
    have h2 : (d.classes.flatMap onames).length ≤ d.classes.length * 8 := flat_le fun x hx => by unfold onames; rw [List.length_map]; exact hl.2.2.2.2.1 x hx
    exact rTwice_c d (by omega) (by omega) (by omega) (by omega) (fun x hx => by have := ham x hx; omega) (fun x hx => by have := hl.2.2.2.2.1 x hx; omega) (by omega) (by omega) hn.inst H
  have c5 : largeB d = false → argsB d = true → allV (writtenD d) = 0 → ∀ H, ACalls Tryz.prog 47 [d.enc] H (boolV (noneB d)) H := fun hlg har hv H => by
    have hl := largeB_le hlg
    rw [← none_same hv]
    exact rNone_c d hr (by omega) (by have := hwl hlg har; omega) (hwt hv) H
  have c6 : largeB d = false → argsB d = true → allV (writtenD d) = 0 → twiceB d = false → ∀ H, ACalls Tryz.prog 48 [d.enc] H (boolV (fitB d)) H := fun hlg har hv htw H => by
    have hl := largeB_le hlg
    rw [← fit_same hv (all_great har) (all_notInt htw)]
    refine rMisfit_c d hr (by omega) (by have := hwl hlg har; omega) (hwt hv) (fun x hx c hc => ?_) H
    have ha := (named1 har).args x hx c hc
    have hvc : ∀ t ∈ c.args, t.valid = 0 := fun t ht => allV_mem hv t (written_con hx hc ht)
    have hnl : ∀ l : List Ty, (∀ t ∈ l, t.valid = 0) → (nodesL l).length ≤ l.length * 200 := by
      intro l
      induction l with
      | nil => intro _; simp [nodesL]
      | cons t l ih =>
        intro h
        have h1 := ih fun t ht => h t (by simp [ht])
        have h2 := valid_cnt2 (h t (by simp))
        unfold Ty.cnt at h2
        simp only [nodesL, List.length_append, List.length_cons]
        omega
    have h1 := hnl c.args hvc
    have h2 := names_len c.args
    exact ⟨fun t ht => valid_good (hvc t ht), by omega, by omega⟩
  have c7 : largeB d = false → noneB d = false → ∀ H, ACalls Tryz.prog 49 [d.enc] H (boolV (loopB d)) H := fun hlg hno => rLoops_c d (clsOk_of hr hlg hno)
  have c8 : largeB d = false → noneB d = false → allV (writtenD d) = 0 → ∀ H, ACalls Tryz.prog 50 [d.enc] H (boolV (ruleB d)) H := fun hlg hno hv H => by
    rw [← rule_same hv]
    refine rUnruly_c d (clsOk_of hr hlg hno) hr (fun x hx o ho => ?_) H
    have h1 := allV_mem hv _ (written_op hx ho)
    exact ⟨valid_good h1, by have := valid_cnt2 h1; omega⟩
  generalize validD d = vv at e0 ⊢
  generalize largeB d = b1 at *
  generalize argsB d = b2 at *
  generalize twiceB d = b4 at *
  generalize noneB d = b5 at *
  generalize fitB d = b6 at *
  generalize loopB d = b7 at *
  generalize ruleB d = b8 at *
  generalize writtenD d = W at *
  clear hwt
  have hDc : d.enc = .agg d.cells := rfl
  rw [hDc] at *
  have hlo : ∀ n, lowL n d.cells := fun n => low_decls n d
  have hlen : d.cells.length = 3 := rfl
  obtain ⟨ds, cs, is⟩ := d
  simp only [DeclsD.cells] at *
  clear hlo hlen hDc hr
  refine acalls_walk (fun _ => .imm) [0, 1, 2, 3, 4, 5, 6, 9, 18, 27, 29, 32, 35, 38, 41] Tryz.mixed Tryz.func10 rfl rfl rfl (by decide) (fun hcl hlow => ?_)
  repeat with_reducible refine awp_assoc ?_
  refine awp_sr fun K hK => ?_
  simp
  refine hK _ _ ?_
  clear hK K
  refine awp_seq_k fun KO hKO => ?_
  refine awp_block ?_
  repeat with_reducible refine awp_assoc ?_
  refine awp_sr fun K hK => ?_
  refine aOps_split 1 fun K hK => ?_
  simp
  refine hK _ _ ?_
  clear hK K
  refine aOps_call (c1 _) (by first | rfl | simp) rfl rfl (by first | (simp; done) | rfl) ?_
  simp
  refine hK _ _ ?_
  clear hK K
  cases b1 with
  | true =>
    refine awp_condT rfl (by simp) ?_
    repeat with_reducible refine awp_assoc ?_
    refine awp_sr fun K hK => ?_
    simp
    refine hK _ _ ?_
    clear hK K
    rw [e0]
    simp [reset_all hcl]
  | false =>
  refine awp_condF rfl (by simp) ?_
  repeat with_reducible refine awp_assoc ?_
  refine awp_sr fun K hK => ?_
  refine aOps_split 1 fun K hK => ?_
  simp
  refine hK _ _ ?_
  clear hK K
  refine aOps_call (c2 rfl _) (by first | rfl | simp) rfl rfl (by first | (simp; done) | rfl) ?_
  simp
  refine hK _ _ ?_
  clear hK K
  cases b2 with
  | false =>
    refine awp_condT rfl (by simp) ?_
    repeat with_reducible refine awp_assoc ?_
    refine awp_sr fun K hK => ?_
    simp
    refine hK _ _ ?_
    clear hK K
    rw [e0]
    simp [reset_all hcl]
  | true =>
  refine awp_condF rfl (by simp) ?_
  refine awp_skip ?_
  refine hKO _ _ ?_
  clear hKO
  repeat with_reducible refine awp_assoc ?_
  refine awp_sr fun K hK => ?_
  refine aOps_split 1 fun K hK => ?_
  simp
  refine hK _ _ ?_
  clear hK K
  refine aOps_call (c3 rfl rfl _) (by first | rfl | simp) rfl rfl (by first | (simp; done) | rfl) ?_
  simp
  refine hK _ _ ?_
  clear hK K
  repeat with_reducible refine awp_assoc ?_
  refine awp_sr fun K hK => ?_
  simp
  refine hK _ _ ?_
  clear hK K
  have hwl2 := hwl rfl rfl
  repeat with_reducible refine awp_assoc ?_
  refine awp_seq_k fun K hK => ?_
  refine awp_block ?_
  refine awp_up W.length (fun k => Env.ofL [(1, .ref (nid H.next 0) 0), (2, intV 0), (3, .slice (W.map Ty.cells) none), (4, intV k)]) (fun k => HL H [.cells [.slice (ds.map Dat.cells) none, .slice (cs.map ClsD.cells) none, .slice (is.map InstD.cells) none]]) (fun k => ∀ y ∈ W.take k, y.valid = 0) (weak_HL hcl rfl (by simp) (by simp)) (by simp) (fun k hk hvk => ?_) (fun hvk => ?_)
  · obtain ⟨t, ht⟩ : ∃ t, W[k]? = some t := ⟨_, List.getElem?_eq_getElem hk⟩
    have hvc := rValidate_c t
    have hxe : t.cells = [strV t.name, .slice (t.args.map Ty.cells) none] := by obtain ⟨_, _⟩ := t; simp [Ty.cells, cellsL_eq, Ty.name, Ty.args]
    simp only [Ty.enc, hxe] at hvc
    repeat with_reducible refine awp_assoc ?_
    refine awp_sr fun K hK => ?_
    simp [hk]
    refine hK _ _ ?_
    clear hK K
    repeat with_reducible refine awp_assoc ?_
    refine awp_seq_k fun K hK => ?_
    refine awp_condT rfl (by simp) ?_
    refine awp_skip ?_
    refine hK _ _ ?_
    clear hK K
    refine awp_seq_k fun KB hKB => ?_
    refine awp_block ?_
    repeat with_reducible refine awp_assoc ?_
    refine awp_sr fun K hK => ?_
    refine aOps_split 4 fun K hK => ?_
    simp [ht, hxe]
    refine hK _ _ ?_
    clear hK K
    refine aOps_call (hvc _) (by first | rfl | simp) rfl rfl (by first | (simp; done) | rfl) ?_
    simp [ht, hxe]
    refine hK _ _ ?_
    clear hK K
    repeat with_reducible refine awp_assoc ?_
    refine awp_sr fun K hK => ?_
    simp
    refine hK _ _ ?_
    clear hK K
    by_cases hb : t.valid = 0
    · refine awp_condF rfl (by simp [hb]) ?_
      refine awp_skip ?_
      refine hKB _ _ ?_
      clear hKB
      refine awp_region ?_
      simp [wrap_succ (show k < 4611686018427387904 by omega)]
      refine ⟨?_, weak_HL hcl rfl (by simp) (by simp)⟩
      simpa using take_all (p := fun y : Ty => y.valid = 0) ht hb hvk
    · refine awp_condT rfl (by simp [hb]) ?_
      repeat with_reducible refine awp_assoc ?_
      refine awp_sr fun K hK => ?_
      simp
      refine hK _ _ ?_
      clear hK K
      have e1 := allV_of ht hvk hb
      rw [e0, e1]
      simp [hb, reset_all hcl]
  rw [List.take_length] at hvk
  have hv0 := allV_zero hvk
  repeat with_reducible refine awp_assoc ?_
  refine awp_sr fun K hK => ?_
  simp
  refine hK _ _ ?_
  clear hK K
  repeat with_reducible refine awp_assoc ?_
  refine awp_seq_k fun K hK => ?_
  refine awp_condF rfl (by simp) ?_
  refine awp_exit ?_
  simp
  clear hK K
  refine hK _ _ ?_
  clear hK K
  refine awp_seq_k fun KO hKO => ?_
  refine awp_block ?_
  repeat with_reducible refine awp_assoc ?_
  refine awp_sr fun K hK => ?_
  refine aOps_split 1 fun K hK => ?_
  simp
  refine hK _ _ ?_
  clear hK K
  refine aOps_call (c4 rfl rfl _) (by first | rfl | simp) rfl rfl (by first | (simp; done) | rfl) ?_
  simp
  refine hK _ _ ?_
  clear hK K
  cases b4 with
  | true =>
    refine awp_condT rfl (by simp) ?_
    repeat with_reducible refine awp_assoc ?_
    refine awp_sr fun K hK => ?_
    simp
    refine hK _ _ ?_
    clear hK K
    rw [e0]
    simp [hv0, reset_all hcl]
  | false =>
  refine awp_condF rfl (by simp) ?_
  repeat with_reducible refine awp_assoc ?_
  refine awp_sr fun K hK => ?_
  refine aOps_split 1 fun K hK => ?_
  simp
  refine hK _ _ ?_
  clear hK K
  refine aOps_call (c5 rfl rfl hv0 _) (by first | rfl | simp) rfl rfl (by first | (simp; done) | rfl) ?_
  simp
  refine hK _ _ ?_
  clear hK K
  cases b5 with
  | true =>
    refine awp_condT rfl (by simp) ?_
    repeat with_reducible refine awp_assoc ?_
    refine awp_sr fun K hK => ?_
    simp
    refine hK _ _ ?_
    clear hK K
    rw [e0]
    simp [hv0, reset_all hcl]
  | false =>
  refine awp_condF rfl (by simp) ?_
  repeat with_reducible refine awp_assoc ?_
  refine awp_sr fun K hK => ?_
  refine aOps_split 1 fun K hK => ?_
  simp
  refine hK _ _ ?_
  clear hK K
  refine aOps_call (c6 rfl rfl hv0 rfl _) (by first | rfl | simp) rfl rfl (by first | (simp; done) | rfl) ?_
  simp
  refine hK _ _ ?_
  clear hK K
  cases b6 with
  | true =>
    refine awp_condT rfl (by simp) ?_
    repeat with_reducible refine awp_assoc ?_
    refine awp_sr fun K hK => ?_
    simp
    refine hK _ _ ?_
    clear hK K
    rw [e0]
    simp [hv0, reset_all hcl]
  | false =>
  refine awp_condF rfl (by simp) ?_
  repeat with_reducible refine awp_assoc ?_
  refine awp_sr fun K hK => ?_
  refine aOps_split 1 fun K hK => ?_
  simp
  refine hK _ _ ?_
  clear hK K
  refine aOps_call (c7 rfl rfl _) (by first | rfl | simp) rfl rfl (by first | (simp; done) | rfl) ?_
  simp
  refine hK _ _ ?_
  clear hK K
  cases b7 with
  | true =>
    refine awp_condT rfl (by simp) ?_
    repeat with_reducible refine awp_assoc ?_
    refine awp_sr fun K hK => ?_
    simp
    refine hK _ _ ?_
    clear hK K
    rw [e0]
    simp [hv0, reset_all hcl]
  | false =>
  refine awp_condF rfl (by simp) ?_
  repeat with_reducible refine awp_assoc ?_
  refine awp_sr fun K hK => ?_
  refine aOps_split 1 fun K hK => ?_
  simp
  refine hK _ _ ?_
  clear hK K
  refine aOps_call (c8 rfl rfl hv0 _) (by first | rfl | simp) rfl rfl (by first | (simp; done) | rfl) ?_
  simp
  refine hK _ _ ?_
  clear hK K
  cases b8 with
  | true =>
    refine awp_condT rfl (by simp) ?_
    repeat with_reducible refine awp_assoc ?_
    refine awp_sr fun K hK => ?_
    simp
    refine hK _ _ ?_
    clear hK K
    rw [e0]
    simp [hv0, reset_all hcl]
  | false =>
  refine awp_condF rfl (by simp) ?_
  refine awp_skip ?_
  refine hKO _ _ ?_
  clear hKO
  repeat with_reducible refine awp_assoc ?_
  refine awp_sr fun K hK => ?_
  simp
  refine hK _ _ ?_
  clear hK K
  rw [e0]
  simp [hv0, reset_all hcl]
end Go.Proofs.YthjmaemdjgajbaaGreat
namespace Go.Proofs.YthjmaemdjgajbaaGreat
open Go Go.Abs Go.Proofs
set_option maxRecDepth 20000
attribute [local simp] aOps wantedA aStep aop aLoad aStore aBin aUn aFieldAddr aField aIndexAddr aIndex aLen aBuild aFill aAlloc aAppend aAppendOwn aMin aMax aBuildSlice litRows newRows isMut isOwn isNilS nilsW bytesR tokW tokAV tokL ret readC splice aeval isLit isLate isCut aCut AV.celled AV.one AV.ofValue Value.oneCell' Value.cells intOp strOp get_nid upd_nid awp aEnd aResults aResult Det unord isCall isNext
attribute [local simp] low_take low_strs low_comp low_tcomp wkEs_refl' WkBs WkEnv WkB WkL WkE WkO ABlock.low lowO lowL lowR AV.low cellsL_eq Ty.low low_map Ty.cells_length Ty.cells_one
set_option maxHeartbeats 4000000 in
theorem wkR_rows (l : List ByteArray) : WkR (rowsS l) (rowsS l) := WkR.refl _
attribute [local simp] wkR_rows
theorem rSorted1_c (l : List ByteArray) (hn : l.Nodup) (hl : l.length ≤ 12) (hne : l ≠ []) (H : AHeap) : ACalls Tryz.prog 32 [strs l none] H (strs (sortS l) none) H := by
  have hl0 : 0 < l.length := List.length_pos_iff.2 hne
  have rl1 : (rowsS l).length = l.length := by simp [rowsS]
  refine acalls_walk (fun t => if t = 7 then .own else if t = 47 then .frz else .imm) [0, 2, 3, 4, 5, 11, 28] Tryz.mixed Tryz.func32 rfl rfl rfl (by decide) (fun hcl hlow => ?_)
  have hrs : l.map (fun s => [strV s]) = rowsS l := rfl
  have hw0 : ∀ (B : ABlock), HL H [B] = HL H [B] := fun _ => rfl
  repeat with_reducible refine awp_assoc ?_
  refine awp_sr fun K hK => ?_
  simp
  refine hK _ _ ?_
  clear hK K
  refine awp_sr fun K hK => ?_
  simp [strs, hne]
  refine ⟨by omega, ?_⟩
  rw [hrs]
  refine hK _ _ ?_
  clear hK K
  repeat with_reducible refine awp_assoc ?_
  refine awp_sr fun K hK => ?_
  simp
  refine hK _ _ ?_
  clear hK K
  refine awp_seq_k fun KO hKO => ?_
  refine awp_block ?_
  refine awp_loop (fun n env H' => ∃ (q : Nat) (c : List ByteArray), c.Perm l ∧ q ≤ l.length ∧ AscS (c.take q) ∧ n = l.length - q ∧ env = Env.ofL [(0, strs l none), (3, .vec (nid H.next 0) l.length), (4, intV (q : Int))] ∧ H' = HL H [.tok l.length 1 (some (rowsS c))])
    l.length (weak_HL hcl rfl (by simp [low_rowsS]) (by simp [rowsS, strs, low_strs])) ⟨0, l, .refl _, Nat.zero_le _, by simp, rfl, rfl, rfl⟩ ?_
  rintro n env H' ⟨q, c, hc, hq, hasc, rfl, rfl, rfl⟩
  have hcl2 := hc.length_eq
  by_cases hlt : q < l.length
  rotate_left
  · have hlt' : ¬ (q : Int) < l.length := by omega
    repeat with_reducible refine awp_assoc ?_
    refine awp_sr fun K hK => ?_
    simp [hlt']
    refine hK _ _ ?_
    clear hK K
    repeat with_reducible refine awp_assoc ?_
    refine awp_seq_k fun K hK => ?_
    refine awp_condF rfl (by simp) ?_
    refine awp_exit ?_
    simp
    refine hKO _ _ ?_
    clear hKO
    have hcm : c = sortS l := by
      refine sortS_eq hn hc ?_
      rwa [List.take_of_length_le (by omega)] at hasc
    rw [hcm]
    have hsl : (sortS l).length = l.length := (sortS_perm l).length_eq
    have hrl := rowsS_len (l := sortS l)
    have hrl2 : (rowsS (sortS l)).length = l.length := by simp [rowsS, hsl]
    refine awp_sr fun K hK => ?_
    simp
    refine ⟨hrl2, fun r hr => by obtain ⟨s, _, rfl⟩ := List.mem_map.1 hr; simp, hK _ _ ?_⟩
    clear hK K
    simp [reset_all hcl, strs]
    exact Wk.tok _ _
  · have hlt' : (q : Int) < l.length := by omega
    repeat with_reducible refine awp_assoc ?_
    refine awp_sr fun K hK => ?_
    simp [hlt']
    refine hK _ _ ?_
    clear hK K
    repeat with_reducible refine awp_assoc ?_
    refine awp_seq_k fun K hK => ?_
    refine awp_condT rfl (by simp) ?_
    refine awp_skip ?_
    refine hK _ _ ?_
    clear hK K
    refine awp_seq_k fun K hK => ?_
    refine awp_block ?_
    repeat with_reducible refine awp_assoc ?_
    refine awp_sr fun K hK => ?_
    simp
    refine hK _ _ ?_
    clear hK K
    obtain ⟨x, hx⟩ : ∃ x, c[q]? = some x := ⟨_, List.getElem?_eq_getElem (by omega)⟩
    have hcs : c = c.take q ++ x :: c.drop (q + 1) := by
      rw [List.getElem?_eq_getElem (by omega)] at hx
      simp only [Option.some.injEq] at hx
      rw [← hx, ← List.drop_eq_getElem_cons, List.take_append_drop]
    refine awp_block ?_
    refine awp_loop (fun n env H' => ∃ (L R : List ByteArray), SiftS L x R ∧ L.length + R.length = q ∧ (L ++ R).Perm (c.take q) ∧ n = L.length ∧
        env = Env.ofL [(0, strs l none), (3, .vec (nid H.next 0) l.length), (4, intV (q : Int)), (5, intV L.length)] ∧ H' = HL H [.tok l.length 1 (some (rowsS (L ++ x :: R ++ c.drop (q + 1))))])
      q (weak_HL hcl rfl ?_ ?_) ⟨c.take q, [], ⟨by simpa using hasc, by simp⟩, by simp; omega, by simp, by simp; omega, rfl, by rw [show c.take q ++ x :: [] ++ c.drop (q + 1) = c by rw [List.append_assoc]; exact hcs.symm]⟩ ?_
    · simp [low_rowsS]
    · have : min q c.length = q := by omega
      simp [this, strs, low_strs]
    rintro n env H' ⟨L, R, hS, hLR, hLp, rfl, rfl, rfl⟩
    have w1 : IntKind.i64.wrap ((q : Int) + 1) = ((q + 1 : Nat) : Int) := by rw [wrap64 (by omega) (by omega)]; omega
    have hcn : c.Nodup := hc.nodup_iff.2 hn
    have hck : (c.take q ++ x :: c.drop (q + 1)).Nodup := by rw [← hcs]; exact hcn
    have hdis : ∀ y ∈ c.take q, y ≠ x := by
      intro y hy e
      rw [List.nodup_append] at hck
      exact hck.2.2 y hy x (by simp) e
    have hfin : ∀ env : Env, env 0 = strs l none → env 3 = .vec (nid H.next 0) l.length → env 4 = intV (q : Int) → (∀ L' y, L = L' ++ [y] → ltS x y = false) → K env (HL H [.tok l.length 1 (some (rowsS (L ++ x :: R ++ c.drop (q + 1))))]) := by
      intro env h00 h3 h4 hd
      refine hK _ _ ?_
      refine awp_region ?_
      have hasc' : AscS (L ++ x :: R) := hS.done (fun y hy => hdis y (hLp.subset (by simp [hy]))) hd
      have hp2 : (L ++ x :: R ++ c.drop (q + 1)).Perm l := by
        refine List.Perm.trans ?_ hc
        refine List.Perm.trans ?_ (List.Perm.of_eq hcs.symm)
        have h1 : (L ++ x :: R).Perm (x :: (L ++ R)) := List.perm_middle
        have h2 : (c.take q ++ x :: c.drop (q + 1)).Perm (x :: (c.take q ++ c.drop (q + 1))) := List.perm_middle
        refine (h1.append_right _).trans (List.Perm.trans ?_ h2.symm)
        exact (hLp.append_right _).cons x
      simp [h00, h3, h4, w1]
      refine ⟨l.length - (q + 1), _, HL H [.tok l.length 1 (some (rowsS (L ++ x :: R ++ c.drop (q + 1))))], ?_, by omega, q + 1, L ++ x :: R ++ c.drop (q + 1), hp2, by omega, ?_, rfl, rfl, rfl⟩
      · rw [List.append_assoc, List.cons_append]
        exact weak_HL hcl rfl (by simp [low_rowsS]) (by simp [h00, h3, h4, strs, low_strs])
      · rw [List.take_append_of_le_length (by simp; omega), List.take_of_length_le (by simp; omega)]
        exact hasc'
    rcases List.eq_nil_or_concat L with rfl | ⟨L', y, rfl⟩
    · repeat with_reducible refine awp_assoc ?_
      refine awp_sdc [] [[], [], [], [], [3], [], [], [3, 4, 5, 6], [3, 4, 5, 6, 7], [3, 4, 5, 6, 7], [3, 4, 5, 6], [3, 4, 5, 6], [8], [3, 4, 7, 8, 9]] (by kernel_rfl) (by rfl) fun K hK => ?_
      refine aCalm_pre 4 (by rfl) fun K hK => ?_
      simp
      refine hK _ _ ?_
      clear hK K
      refine aCalm_pre 5 (by rfl) fun K hK => ?_
      simp
      refine hK _ _ ?_
      clear hK K
      refine aCalm_pre 5 (by rfl) fun K hK => ?_
      simp
      refine hK _ _ ?_
      clear hK K
      refine aCalm_end ?_
      simp
      refine hK _ _ ?_
      clear hK K
      repeat with_reducible refine awp_assoc ?_
      refine awp_seq_k fun K hK => ?_
      refine awp_condF rfl (by simp) ?_
      refine awp_exit ?_
      simp
      have := hfin (Env.ofL [(0, strs l none), (2, .undef), (3, .vec (nid H.next 0) l.length), (4, intV (q : Int)), (5, intV 0), (11, .undef), (28, boolV false)]) rfl rfl rfl (by simp)
      simpa using this
    · rw [List.concat_eq_append] at *
      have hgy : (L' ++ [y] ++ x :: R ++ c.drop (q + 1))[L'.length]? = some y := by simp
      have hgx : (L' ++ [y] ++ x :: R ++ c.drop (q + 1))[L'.length + 1]? = some x := by
        rw [List.append_assoc, List.getElem?_append_right (by simp)]; simp
      generalize hrows : L' ++ [y] ++ x :: R ++ c.drop (q + 1) = rows at *
      have hry := rowsS_at hgy
      have hrx := rowsS_at hgx
      have hrl := rowsS_len (l := rows)
      have hL' : L'.length + 1 ≤ q := by simp at hLR; omega
      have e0 : ((L' ++ [y]).length : Int) = (L'.length : Int) + 1 := by simp
      have w3 : IntKind.i64.wrap (L'.length : Int) = (L'.length : Int) := wrap64 (by omega) (by omega)
      have t1 : ((L'.length : Int) + 1).toNat = L'.length + 1 := by omega
      have p1 : (0 : Int) < (L'.length : Int) + 1 := by omega
      have p2 : (0 : Int) ≤ (L'.length : Int) + 1 := by omega
      have p3 : L'.length + 1 < l.length := by omega
      have p4 : L'.length < l.length := by omega
      simp only [e0]
      repeat with_reducible refine awp_assoc ?_
      refine awp_sdc [] [[], [], [], [], [3], [], [], [3, 4, 5, 6], [3, 4, 5, 6, 7], [3, 4, 5, 6, 7], [3, 4, 5, 6], [3, 4, 5, 6], [8], [3, 4, 7, 8, 9]] (by kernel_rfl) (by rfl) fun K hK => ?_
      refine aCalm_pre 3 (by rfl) fun K hK => ?_
      simp [p1]
      refine hK _ _ ?_
      clear hK K
      refine aCalm_pre 4 (by rfl) fun K hK => ?_
      simp [t1, p2, p3, hrx, eq_true hrl]
      refine hK _ _ ?_
      clear hK K
      refine aCalm_pre 5 (by rfl) fun K hK => ?_
      simp [w3, p4, hry, eq_true hrl]
      refine hK _ _ ?_
      clear hK K
      have hb : Op.bytesLess x.toList y.toList = ltS x y := rfl
      cases hlt2 : ltS x y
      · refine aCalm_pre 2 (by rfl) fun K hK => ?_
        simp [hb, hlt2]
        refine hK _ _ ?_
        clear hK K
        refine aCalm_end ?_
        simp
        refine hK _ _ ?_
        clear hK K
        repeat with_reducible refine awp_assoc ?_
        refine awp_seq_k fun K hK => ?_
        refine awp_condF rfl (by simp [hlt2]) ?_
        refine awp_exit ?_
        simp
        refine hfin _ rfl rfl rfl (fun L2 y2 e => ?_)
        obtain ⟨_, e2⟩ := List.append_inj' e rfl
        simp only [List.cons.injEq, and_true] at e2
        rw [← e2]; exact hlt2
      · refine aCalm_pre 2 (by rfl) fun K hK => ?_
        simp [hb, hlt2]
        refine hK _ _ ?_
        clear hK K
        refine aCalm_end ?_
        simp
        refine hK _ _ ?_
        clear hK K
        repeat with_reducible refine awp_assoc ?_
        refine awp_seq_k fun K hK => ?_
        refine awp_condT rfl (by simp [hlt2]) ?_
        refine awp_skip ?_
        refine hK _ _ ?_
        clear hK K
        refine awp_seq_k fun K2 hK2 => ?_
        refine awp_block ?_
        have hset : ((rowsS rows).set (L'.length + 1) [strV y]).set L'.length [strV x] = rowsS (L' ++ x :: y :: R ++ c.drop (q + 1)) := by
          rw [← hrows]
          unfold rowsS
          rw [show ([strV y] : List AV) = (fun s => [strV s]) y from rfl, show ([strV x] : List AV) = (fun s => [strV s]) x from rfl, ← List.map_set, ← List.map_set]
          congr 1
          simp [List.set_append]
        have hrl2 : ∀ r ∈ (rowsS rows).set (L'.length + 1) [strV y], r.length = 1 := by
          intro r hr
          rcases List.mem_or_eq_of_mem_set hr with h | h
          · exact hrl r h
          · rw [h]; rfl
        refine awp_drawo [15, 17] [[], [0], [0, 1], [0, 1, 2], [0, 1, 2], [0, 1, 2, 3, 4], [0, 1, 2, 3, 4, 5], [0, 1, 2, 3, 4, 5], [0, 1, 2, 3, 4], [0, 1, 2, 3, 4], [0, 1, 2, 3, 4, 5, 6, 7, 8, 9], [0, 1, 2, 3, 4, 5, 6, 7, 8, 9, 10], [0, 1, 2, 3, 4, 5, 6, 7, 8, 9], [0, 1, 2, 3, 4, 5, 6, 7, 8, 9], [2, 3, 4], [2, 3, 4], [], []] (by kernel_rfl) (by rfl) (by rfl) ?_
        simp [w3, t1, p2, p3, p4, hry, hrx, eq_true hrl, eq_true hrl2]
        refine hK2 _ _ ?_
        refine awp_region ?_
        rw [hset]
        simp [w3]
        refine ⟨L'.length, _, HL H [.tok l.length 1 (some (rowsS (L' ++ x :: y :: R ++ c.drop (q + 1))))], ?_, by omega, L', y :: R, hS.step hlt2, by simp at hLR ⊢; omega, by simpa using hLp, rfl, rfl, by simp⟩
        rw [List.append_assoc, List.cons_append, List.cons_append]
        exact weak_HL hcl rfl (by simp [low_rowsS]) (by simp [strs, low_strs])
theorem rSorted_c (l : List ByteArray) (hn : l.Nodup) (hl : l.length ≤ 12) (H : AHeap) : ACalls Tryz.prog 32 [strs l none] H (strs (sortS l) none) H := by
  by_cases hne : l = []
  rotate_left
  · exact rSorted1_c l hn hl hne H
  subst hne
  refine acalls_walk (fun _ => .imm) [0, 2, 3, 4, 5, 11, 28] Tryz.mixed Tryz.func32 rfl rfl rfl (by decide) (fun hcl hlow => ?_)
  repeat with_reducible refine awp_assoc ?_
  refine awp_sr fun K hK => ?_
  simp
  refine hK _ _ ?_
  clear hK K
  repeat with_reducible refine awp_assoc ?_
  refine awp_sr fun K hK => ?_
  simp [strs]
  refine hK _ _ ?_
  clear hK K
  repeat with_reducible refine awp_assoc ?_
  refine awp_sr fun K hK => ?_
  simp
  refine hK _ _ ?_
  clear hK K
  repeat with_reducible refine awp_assoc ?_
  refine awp_seq_k fun K hK => ?_
  refine awp_block ?_
  refine awp_up 0 (fun k => Env.ofL [(0, strs [] none), (3, .v (.slice none 0 0)), (4, intV k)]) (fun k => HL H []) (fun _ => True) (weak_HL hcl rfl (by simp [strs]) (by simp [strs])) (trivial) (fun k hk hvk => ?_) (fun hvk => ?_)
  · omega
  repeat with_reducible refine awp_assoc ?_
  refine awp_sr fun K hK => ?_
  simp
  refine hK _ _ ?_
  clear hK K
  repeat with_reducible refine awp_assoc ?_
  refine awp_seq_k fun K hK => ?_
  refine awp_condF rfl (by simp) ?_
  refine awp_exit ?_
  simp
  clear hK K
  refine hK _ _ ?_
  clear hK K
  repeat with_reducible refine awp_assoc ?_
  refine awp_sr fun K hK => ?_
  simp
  refine hK _ _ ?_
  clear hK K
  simp [reset_all hcl]
  exact Wk.nilSlice
end Go.Proofs.YthjmaemdjgajbaaGreat
