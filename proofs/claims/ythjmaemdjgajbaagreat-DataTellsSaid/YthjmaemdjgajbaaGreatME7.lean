/- FindCon of the reference; Clone, copied of the program. -/
import Derived.Test.YthjmaemdjgajbaaGreatMD9
import Derived.Test.YthjmaemdjgajbaaGreatME4
import Derived.Test.YthjmaemdjgajbaaGreatMD6
import Derived.Test.YthjmaemdjgajbaaGreatME6
set_option linter.unusedVariables false
set_option linter.unusedSimpArgs false
namespace Go.Proofs.YthjmaemdjgajbaaGreat
open Go Go.Abs Go.Proofs
set_option maxRecDepth 20000
attribute [local simp] aOps wantedA aStep aop aLoad aStore aBin aUn aFieldAddr aField aIndexAddr aIndex aLen aBuild aFill aAlloc aAppend aAppendOwn aMin aMax aBuildSlice litRows newRows isMut isOwn isNilS nilsW bytesR tokW tokAV tokL ret readC splice aeval isLit isLate isCut aCut AV.celled AV.one AV.ofValue Value.oneCell' Value.cells intOp strOp get_nid upd_nid awp aEnd aResults aResult Det unord isCall isNext
attribute [local simp] low_take low_strs low_comp low_tcomp wkEs_refl' WkBs WkEnv WkB WkL WkE WkO ABlock.low lowO lowL lowR AV.low cellsL_eq Ty.low low_map Ty.cells_length Ty.cells_one
attribute [local simp] ConD.cells Dat.cells PredD.cells SigD.cells ClsD.cells InstD.cells DeclsD.cells DeclsD.enc Dat.enc low_datL low_conL low_predL low_sigL low_clsL low_instL
def findC (l : List Dat) (n : ByteArray) : Option (Dat × Nat) := l.findSome? fun x => (x.cons.findIdx? fun c => decide (c.name = n)).map fun k => (x, k)
theorem findC_at {l : List Dat} {n : ByteArray} {i j : Nat} {x : Dat} {c : ConD} (hx : l[i]? = some x) (h : ∀ y ∈ l.take i, ∀ c ∈ y.cons, (decide (c.name = n)) = false) (hc : x.cons[j]? = some c) (hn : c.name = n) (h2 : ∀ c ∈ x.cons.take j, (decide (c.name = n)) = false) : findC l n = some (x, j) := by
  unfold findC
  rw [List.findSome?_eq_some_iff]
  refine ⟨l.take i, x, l.drop (i + 1), sp hx, ?_, fun y hy => ?_⟩
  · rw [ix_at hc (by simpa using hn) h2]; rfl
  · rw [ix_none (h y hy)]; rfl
theorem findC_none {l : List Dat} {n : ByteArray} (h : ∀ y ∈ l, ∀ c ∈ y.cons, (decide (c.name = n)) = false) : findC l n = none := by
  unfold findC
  rw [List.findSome?_eq_none_iff]
  intro y hy
  rw [ix_none (h y hy)]; rfl
def findCV (l : List Dat) (n : ByteArray) : Dat × Int × Bool := match findC l n with | some (x, k) => (x, k, true) | none => (zeroDat, 0, false)
set_option maxHeartbeats 1000000 in
theorem rFindCon_c (l : List Dat) (hl : l.length < 4611686018427387904) (hcl2 : ∀ x ∈ l, x.cons.length < 4611686018427387904) (n : ByteArray) (H : AHeap) : ACalls Tryz.prog 27 [.slice (l.map Dat.cells) none, strV n] H (.tuple [(findCV l n).1.enc, intV (findCV l n).2.1, boolV (findCV l n).2.2]) H := by
  have e0 : findCV l n = match findC l n with | some (x, k) => (x, k, true) | none => (zeroDat, 0, false) := rfl
  generalize findCV l n = cv at e0 ⊢
  refine acalls_walk (fun _ => .imm) [0, 1, 4, 5, 6, 7, 8, 12, 22, 35] Tryz.mixed Tryz.func27 rfl rfl rfl (by decide) (fun hcl hlow => ?_)
  repeat with_reducible refine awp_assoc ?_
  refine awp_sr fun K hK => ?_
  simp
  refine hK _ _ ?_
  clear hK K
  repeat with_reducible refine awp_assoc ?_
  refine awp_sr fun K hK => ?_
  simp
  refine hK _ _ ?_
  clear hK K
  repeat with_reducible refine awp_assoc ?_
  refine awp_seq_k fun K hK => ?_
  refine awp_block ?_
  refine awp_up l.length (fun k => Env.ofL [(0, .slice (l.map Dat.cells) none), (1, strV n), (4, .ref (nid H.next 0) 0), (5, intV 0), (6, boolV false), (7, intV k)]) (fun k => HL H [.cells [strV ByteArray.empty, .v (.slice none 0 0), .v (.slice none 0 0)]]) (fun k => ∀ y ∈ l.take k, ∀ c ∈ y.cons, (decide (c.name = n)) = false) (weak_HL hcl rfl (by simp) (by simp)) (by simp) (fun k hk hvk => ?_) (fun hvk => ?_)
  · obtain ⟨x, hx⟩ : ∃ x, l[k]? = some x := ⟨_, List.getElem?_eq_getElem hk⟩
    have g5 := hcl2 x (List.mem_of_getElem? hx)
    repeat with_reducible refine awp_assoc ?_
    refine awp_sr fun K hK => ?_
    simp [hk]
    refine hK _ _ ?_
    clear hK K
    repeat with_reducible refine awp_assoc ?_
    refine awp_seq_k fun K hK => ?_
    refine awp_condT rfl (by simp) ?_
    refine awp_skip ?_
    refine hK _ _ ?_
    clear hK K
    refine awp_seq_k fun KB hKB => ?_
    refine awp_block ?_
    repeat with_reducible refine awp_assoc ?_
    refine awp_sr fun K hK => ?_
    simp [hx]
    refine hK _ _ ?_
    clear hK K
    refine awp_hide fun Q hQ => ?_
    refine awp_block ?_
    refine awp_up x.cons.length (fun j => Env.ofL [(0, .slice (l.map Dat.cells) none), (1, strV n), (4, .ref (nid H.next 0) 0), (5, intV 0), (6, boolV false), (7, intV k), (8, intV j)]) (fun j => HL H [.cells [strV ByteArray.empty, .v (.slice none 0 0), .v (.slice none 0 0)]]) (fun j => ∀ c ∈ x.cons.take j, (decide (c.name = n)) = false) (weak_HL hcl rfl (by simp) (by simp)) (by simp) (fun j hj hvj => ?_) (fun hvj => ?_)
    · obtain ⟨c, hc⟩ : ∃ c, x.cons[j]? = some c := ⟨_, List.getElem?_eq_getElem hj⟩
      repeat with_reducible refine awp_assoc ?_
      refine awp_sr fun K hK => ?_
      simp [hj, hx]
      refine hK _ _ ?_
      clear hK K
      repeat with_reducible refine awp_assoc ?_
      refine awp_seq_k fun K hK => ?_
      refine awp_condT rfl (by simp) ?_
      refine awp_skip ?_
      refine hK _ _ ?_
      clear hK K
      refine awp_seq_k fun KC hKC => ?_
      refine awp_block ?_
      repeat with_reducible refine awp_assoc ?_
      refine awp_sr fun K hK => ?_
      refine aOps_split 5 fun K hK => ?_
      simp [hx]
      refine hK _ _ ?_
      clear hK K
      refine aOps_split 4 fun K hK => ?_
      simp [hc]
      refine hK _ _ ?_
      clear hK K
      simp
      refine hK _ _ ?_
      clear hK K
      by_cases hs : c.name = n
      · refine awp_condT rfl (by simp [hs]) ?_
        repeat with_reducible refine awp_assoc ?_
        refine awp_sr fun K hK => ?_
        simp [hx]
        refine hK _ _ ?_
        clear hK K
        refine hQ _ _ _ ?_
        rw [e0, findC_at hx hvk hc hs hvj]
        simp [reset_all hcl]
      · refine awp_condF rfl (by simp [hs]) ?_
        refine awp_skip ?_
        refine hKC _ _ ?_
        clear hKC
        refine awp_region ?_
        simp [wrap_succ (show j < 4611686018427387904 by omega)]
        refine ⟨?_, weak_HL hcl rfl (by simp) (by simp)⟩
        simpa using take_all (p := fun y : ConD => (decide (y.name = n)) = false) hc (by simpa using hs) hvj
    rw [List.take_length] at hvj
    repeat with_reducible refine awp_assoc ?_
    refine awp_sr fun K hK => ?_
    simp [hx]
    refine hK _ _ ?_
    clear hK K
    repeat with_reducible refine awp_assoc ?_
    refine awp_seq_k fun K hK => ?_
    refine awp_condF rfl (by simp) ?_
    refine awp_exit ?_
    simp
    refine hQ _ _ _ ?_
    refine hKB _ _ ?_
    clear hKB
    refine awp_region ?_
    simp [wrap_succ (show k < 4611686018427387904 by omega)]
    refine ⟨?_, weak_HL hcl rfl (by simp) (by simp)⟩
    simpa using take_all (p := fun y : Dat => ∀ c ∈ y.cons, (decide (c.name = n)) = false) hx hvj hvk
  rw [List.take_length] at hvk
  repeat with_reducible refine awp_assoc ?_
  refine awp_sr fun K hK => ?_
  simp
  refine hK _ _ ?_
  clear hK K
  repeat with_reducible refine awp_assoc ?_
  refine awp_seq_k fun K hK => ?_
  refine awp_condF rfl (by simp) ?_
  refine awp_exit ?_
  simp
  clear hK K
  refine hK _ _ ?_
  clear hK K
  repeat with_reducible refine awp_assoc ?_
  refine awp_sr fun K hK => ?_
  simp
  refine hK _ _ ?_
  clear hK K
  rw [e0, findC_none hvk]
  simp [zeroDat, reset_all hcl]
  exact Wk.tuple ⟨Wk.agg ⟨.refl _, Wk.nilSlice, Wk.nilSlice, trivial⟩, .refl _, .refl _, trivial⟩
theorem acalls_empty {P : Program} {f : FuncId} {H : AHeap} {R : AV → AHeap → Prop} (h : ∀ (a : Option Addr) (cap : Nat), ACallsR P f [.v (.slice a 0 cap)] H R) : ACallsR P f [.slice [] none] H R := by
  refine ⟨(h none 0).1, fun K w cargs hI ha => ?_⟩
  obtain ⟨x, xs, e, hr, hrs⟩ := ha
  obtain ⟨a, len, cap, e2, hl, _⟩ := hr
  have hl0 : len = 0 := by simpa using hl
  subst hl0
  exact (h a cap).2 K w cargs hI ⟨x, xs, e, e2, hrs⟩
theorem dClone_c (l : List ByteArray) (hl : l.length < 1000000000000) (H : AHeap) : ACalls Tryz.prog 65 [strs l none] H (strs l none) H := by
  cases l with
  | nil =>
    refine acalls_empty fun a cap => ?_
    cases a with
    | none =>
      refine acalls_walk (fun _ => .imm) [0, 2, 4] Tryz.mixed Tryz.func65 rfl rfl rfl (by decide) (fun hcl hlow => ?_)
      repeat with_reducible refine awp_assoc ?_
      refine awp_sr fun K hK => ?_
      simp
      refine hK _ _ ?_
      clear hK K
      repeat with_reducible refine awp_assoc ?_
      refine awp_sr fun K hK => ?_
      simp
      refine hK _ _ ?_
      clear hK K
      repeat with_reducible refine awp_assoc ?_
      refine awp_seq_k fun K hK => ?_
      refine awp_condT rfl (by simp) ?_
      repeat with_reducible refine awp_assoc ?_
      refine awp_sr fun K hK => ?_
      simp
      refine hK _ _ ?_
      clear hK K
      simp [reset_all hcl]
      exact Wk.nilSlice
    | some a =>
      refine acalls_walk (fun _ => .imm) [0, 2, 4] Tryz.mixed Tryz.func65 rfl rfl rfl (by decide) (fun hcl hlow => ?_)
      repeat with_reducible refine awp_assoc ?_
      refine awp_sr fun K hK => ?_
      simp
      refine hK _ _ ?_
      clear hK K
      repeat with_reducible refine awp_assoc ?_
      refine awp_sr fun K hK => ?_
      simp
      refine hK _ _ ?_
      clear hK K
      repeat with_reducible refine awp_assoc ?_
      refine awp_seq_k fun K hK => ?_
      refine awp_condF rfl (by simp) ?_
      refine awp_skip ?_
      refine hK _ _ ?_
      clear hK K
      repeat with_reducible refine awp_assoc ?_
      refine awp_sr fun K hK => ?_
      simp [newRows]
      refine hK _ _ ?_
      clear hK K
      simp [reset_all hcl]
      exact Wk.tok _ _
  | cons s l =>
    refine acalls_walk (fun _ => .imm) [0, 2, 4] Tryz.mixed Tryz.func65 rfl rfl rfl (by decide) (fun hcl hlow => ?_)
    repeat with_reducible refine awp_assoc ?_
    refine awp_sr fun K hK => ?_
    simp [strs]
    refine hK _ _ ?_
    clear hK K
    repeat with_reducible refine awp_assoc ?_
    refine awp_sr fun K hK => ?_
    simp [strs]
    refine hK _ _ ?_
    clear hK K
    repeat with_reducible refine awp_assoc ?_
    refine awp_seq_k fun K hK => ?_
    refine awp_condF rfl (by simp) ?_
    refine awp_skip ?_
    refine hK _ _ ?_
    clear hK K
    repeat with_reducible refine awp_assoc ?_
    refine awp_sr fun K hK => ?_
    refine aOps_split 2 fun K hK => ?_
    simp
    refine hK _ _ ?_
    clear hK K
    refine aOps_split 1 fun K hK => ?_
    simp [strs]
    simp only [List.length_cons] at hl
    refine ⟨by omega, hK _ _ ?_⟩
    clear hK K
    simp
    refine hK _ _ ?_
    clear hK K
    simp [strs, reset_all hcl]
theorem lowC (n : Nat) (l : List ConD) (k : Nat) : lowR n ((l.map ConD.cells).take k) := by
  rw [← List.map_take]; exact low_conL n _
set_option maxHeartbeats 1000000 in
theorem copied_c (x : Dat) (hv : x.vars.length < 1000000000000) (hcn : x.cons.length < 1000000000000) (hca : ∀ c ∈ x.cons, c.args.length < 1000000000000 ∧ ∀ t ∈ c.args, t.cnt < 1099511627776) (H : AHeap) : ACalls Tryz.prog 26 [x.enc] H x.enc H := by
  obtain ⟨n, vs, cs⟩ := x
  have hcp := dClone_c vs hv
  simp only [Dat.enc, Dat.cells] at *
  refine acalls_walk (fun d => if d = 14 then .nilv 2 else if d = 24 then .nilv 2 else if d = 3 then .late else if d = 36 then .lit else if d = 43 then .lit else .imm) [0, 1, 2, 3, 5, 6, 8, 16, 17, 18, 19, 26, 27, 28, 29] Tryz.mixed Tryz.func26 rfl rfl rfl (by decide) (fun hcl hlow => ?_)
  have hF2 : ∀ i, i ≠ 2 → ¬ nid H.next i = nid H.next 2 := fun i h => by unfold nid; omega
  repeat with_reducible refine awp_assoc ?_
  refine awp_sr fun K hK => ?_
  simp
  refine hK _ _ ?_
  clear hK K
  repeat with_reducible refine awp_assoc ?_
  refine awp_sdf 1 6 (fillAt (nid H.next 2) [strV ByteArray.empty, .v (.slice none 0 0), .v (.slice none 0 0)]) [5, 7] [[], [], [0, 1], [0, 1], [0, 1], [], [0, 1, 2, 3, 4, 5], []] (by kernel_rfl) (by rfl) (by rfl) fun K hK => ?_
  simp only [holes, alloc_HL, List.cons_append, List.nil_append]
  refine fLex_pre (nid H.next 2) 4 (fun G i h => fillAt_off G i h) (by rfl) fun K2 hK2 => ?_
  simp [oOps, offs, AV.off, Op.operands, Call.operands, regM, litOp, isReg, isLit, noTok, hF2, strs]
  refine hK2 _ ?_
  clear hK2 K2
  refine fLex_call0 (hcp _) (hcp _) rfl rfl rfl rfl rfl (by simp [strs]) ?_
  refine fLex_eff rfl rfl rfl rfl rfl fun K2 hK2 => ?_
  simp [strs]
  refine hK2 _ _ (fun _ => by simp [Det, fillAt, strs]) (by simp) ?_
  clear hK2 K2
  refine fLex_self (v := .ref (nid H.next 2) 0) rfl rfl (det_late rfl rfl rfl (by simp; rfl) rfl (by simp)) ?_ ?_
  · intro p hp hu
    simp only [List.mem_singleton] at hp
    subst hp
    exact det_late rfl rfl rfl (by simp; rfl) rfl (by simp)
  refine fLex_effA rfl rfl rfl rfl rfl rfl fun K2 hK2 => ?_
  simp [fillAt, strs]
  refine hK2 _ _ (by simp [fillAt]) (by simp [unord]) ?_
  clear hK2 K2
  refine fLex_end ?_
  simp [fillAt]
  refine hK _ _ ?_
  clear hK K
  repeat with_reducible refine awp_assoc ?_
  refine awp_sr fun K hK => ?_
  simp
  refine hK _ _ ?_
  clear hK K
  repeat with_reducible refine awp_assoc ?_
  refine awp_seq_k fun K hK => ?_
  refine awp_block ?_
  refine awp_up cs.length (fun k => Env.ofL [(1, .ref (nid H.next 0) 0), (2, .ref (nid H.next 1) 0), (3, .ref (nid H.next 2) 0), (16, .slice (cs.map ConD.cells) none), (17, intV (cs.length : Int)), (18, intV k)]) (fun k => HL H [.cells [strV n, strs vs none, .slice (cs.map ConD.cells) none], .cells [strV ByteArray.empty, .v (.slice none 0 0), .v (.slice none 0 0)], .cells [strV n, strs vs none, .slice ((cs.map ConD.cells).take k) (some (nid H.next 3))], .tok k 2 none]) (fun _ => True) (weak_HL hcl rfl (by simp [lowC, strs, low_strs]) (by simp [lowC, strs, low_strs])) (trivial) (fun k hk hvk => ?_) (fun hvk => ?_)
  · obtain ⟨c, hc⟩ : ∃ c, cs[k]? = some c := ⟨_, List.getElem?_eq_getElem hk⟩
    obtain ⟨hca1, hca2⟩ := hca c (List.mem_of_getElem? hc)
    obtain ⟨cn, cl⟩ := c
    simp only at hca1 hca2
    repeat with_reducible refine awp_assoc ?_
    refine awp_sr fun K hK => ?_
    simp [hk]
    refine hK _ _ ?_
    clear hK K
    repeat with_reducible refine awp_assoc ?_
    refine awp_seq_k fun K hK => ?_
    refine awp_condT rfl (by simp) ?_
    refine awp_skip ?_
    refine hK _ _ ?_
    clear hK K
    refine awp_seq_k fun KB hKB => ?_
    refine awp_block ?_
    repeat with_reducible refine awp_assoc ?_
    refine awp_sr fun K hK => ?_
    simp [hc, strs]
    refine hK _ _ ?_
    clear hK K
    repeat with_reducible refine awp_assoc ?_
    refine awp_sr fun K hK => ?_
    simp
    refine hK _ _ ?_
    clear hK K
    repeat with_reducible refine awp_assoc ?_
    refine awp_sr fun K hK => ?_
    simp
    refine hK _ _ ?_
    clear hK K
    refine awp_hide fun Q hQ => ?_
    repeat with_reducible refine awp_assoc ?_
    refine awp_seq_k fun K hK => ?_
    refine awp_block ?_
    refine awp_up cl.length (fun j => Env.ofL [(1, .ref (nid H.next 0) 0), (2, .ref (nid H.next 1) 0), (3, .ref (nid H.next 2) 0), (6, .ref (nid H.next 6) 0), (16, .slice (cs.map ConD.cells) none), (17, intV (cs.length : Int)), (18, intV k), (26, .slice (cl.map Ty.cells) none), (27, intV (cl.length : Int)), (28, intV j)]) (fun j => HL H [.cells [strV n, strs vs none, .slice (cs.map ConD.cells) none], .cells [strV ByteArray.empty, .v (.slice none 0 0), .v (.slice none 0 0)], .cells [strV n, strs vs none, .slice ((cs.map ConD.cells).take k) (some (nid H.next 3))], .tok k 2 none, .cells [strV cn, .slice (cl.map Ty.cells) none], .tok j 2 none, .cells [strV cn, .slice ((cl.map Ty.cells).take j) (some (nid H.next 5))]]) (fun _ => True) (weak_HL hcl rfl (by simp [lowC, strs, low_strs, low_map]) (by simp [lowC, strs, low_strs, low_map])) (trivial) (fun j hj hvj => ?_) (fun hvj => ?_)
    · obtain ⟨x, hx⟩ : ∃ x, cl[j]? = some x := ⟨_, List.getElem?_eq_getElem hj⟩
      have hc3 := copiedType_c x (hca2 x (List.mem_of_getElem? hx))
      obtain ⟨nx, lx⟩ := x
      simp only [enc_mk] at hc3
      repeat with_reducible refine awp_assoc ?_
      refine awp_sr fun K hK => ?_
      simp [hj]
      refine hK _ _ ?_
      clear hK K
      repeat with_reducible refine awp_assoc ?_
      refine awp_seq_k fun K hK => ?_
      refine awp_condT rfl (by simp) ?_
      refine awp_skip ?_
      refine hK _ _ ?_
      clear hK K
      refine awp_seq_k fun KC hKC => ?_
      refine awp_block ?_
      repeat with_reducible refine awp_assoc ?_
      refine awp_sr fun K hK => ?_
      simp [hx, Ty.cells]
      refine hK _ _ ?_
      clear hK K
      refine awp_draw [4, 5, 7] [[], [], [0, 1], [0, 1], [0, 1], [], [], []] (by kernel_rfl) ?_
      refine aLex_read rfl rfl rfl rfl fun K hK => ?_
      simp
      refine hK _ _ _ ?_
      clear hK K
      refine aLex_read rfl rfl rfl rfl fun K hK => ?_
      simp
      refine hK _ _ _ ?_
      clear hK K
      refine aLex_read rfl rfl rfl rfl fun K hK => ?_
      simp
      refine hK _ _ _ ?_
      clear hK K
      refine aLex_call (v := .agg [strV nx, .slice (lx.map Ty.cells) none]) rfl rfl ?_ (by simp) ?_
      · simp
        exact hc3 _
      refine aLex_eff rfl rfl rfl rfl fun K hK => ?_
      simp
      refine hK _ _ ?_
      clear hK K
      refine aLex_eff rfl rfl rfl rfl fun K hK => ?_
      simp [Nat.min_eq_left (Nat.le_of_lt hj)]
      refine ⟨by omega, fun r hr => ?_, hK _ _ ?_⟩
      · obtain ⟨x, _, rfl⟩ := List.mem_map.1 (List.mem_of_mem_take hr)
        simp
      clear hK K
      refine aLex_read rfl rfl rfl rfl fun K hK => ?_
      simp
      refine hK _ _ _ ?_
      clear hK K
      refine aLex_eff rfl rfl rfl rfl fun K hK => ?_
      simp
      refine hK _ _ ?_
      clear hK K
      refine aLex_end ?_
      simp
      refine hKC _ _ ?_
      clear hKC
      refine awp_region ?_
      simp [wrap_succ (show j < 4611686018427387904 by omega)]
      have e1 : (cl.map Ty.cells).take (j + 1) = (cl.map Ty.cells).take j ++ [[AV.v (Value.string nx), AV.slice (List.map Ty.cells lx) none]] :=
        take_one (by simp [hx, Ty.cells])
      rw [e1]
      exact weak_HL hcl rfl (by simp [lowC, strs, low_strs]) (by simp [lowC, strs, low_strs, low_map])
    have e2 : (cl.map Ty.cells).take cl.length = cl.map Ty.cells := List.take_of_length_le (by simp)
    rw [e2]
    repeat with_reducible refine awp_assoc ?_
    refine awp_sr fun K hK => ?_
    simp
    refine hK _ _ ?_
    clear hK K
    repeat with_reducible refine awp_assoc ?_
    refine awp_seq_k fun K hK => ?_
    refine awp_condF rfl (by simp) ?_
    refine awp_exit ?_
    simp
    clear hK K
    refine hK _ _ ?_
    clear hK K
    refine awp_region ?_
    simp [Nat.min_eq_left (Nat.le_of_lt hk)]
    refine ⟨by omega, fun r hr => ?_, ?_⟩
    · obtain ⟨x, _, rfl⟩ := List.mem_map.1 (List.mem_of_mem_take hr)
      simp
    refine hQ _ _ _ ?_
    refine hKB _ _ ?_
    clear hKB
    refine awp_region ?_
    simp [wrap_succ (show k < 4611686018427387904 by omega)]
    have e1 : (cs.map ConD.cells).take (k + 1) = (cs.map ConD.cells).take k ++ [[AV.v (Value.string cn), AV.slice (List.map Ty.cells cl) none]] :=
      take_one (by simp [hc])
    rw [e1]
    have hw3 : Wk (.slice ((cs.map ConD.cells).take k ++ [[strV cn, .slice (cl.map Ty.cells) (some (nid H.next 5))]]) (some (nid H.next 3))) (.slice ((cs.map ConD.cells).take k ++ [[strV cn, .slice (cl.map Ty.cells) none]]) (some (nid H.next 3))) := Wk.sliceT (wkR_append (WkR.refl _) ⟨⟨.refl _, Wk.tok _ _, trivial⟩, trivial⟩)
    exact weak_HL hcl rfl (by simp [lowC, strs, low_strs, hw3, low_map]) (by simp [lowC, strs, low_strs, low_map])
  have e2 : (cs.map ConD.cells).take cs.length = cs.map ConD.cells := List.take_of_length_le (by simp)
  rw [e2]
  repeat with_reducible refine awp_assoc ?_
  refine awp_sr fun K hK => ?_
  simp
  refine hK _ _ ?_
  clear hK K
  repeat with_reducible refine awp_assoc ?_
  refine awp_seq_k fun K hK => ?_
  refine awp_condF rfl (by simp) ?_
  refine awp_exit ?_
  simp
  clear hK K
  refine hK _ _ ?_
  clear hK K
  repeat with_reducible refine awp_assoc ?_
  refine awp_sr fun K hK => ?_
  simp
  refine hK _ _ ?_
  clear hK K
  simp [reset_all hcl, strs]
  exact Wk.agg (by simp)
noncomputable def conD (d : DeclsD) (n : ByteArray) : Dat × Int × Int := if validD d = 0 then (match findC (allD d) n with | some (x, k) => (x, (k : Int), 0) | none => (zeroDat, 0, 4)) else (zeroDat, 0, validD d)
theorem allD_bounds {d : DeclsD} (hr : RawD d) : (∀ x ∈ allD d, x.cons.length < 4611686018427387904) ∧ (∀ x ∈ allD d, x.vars.length < 4611686018427387904) := by
  have hb : (∀ x ∈ baseD, x.cons.length < 4611686018427387904) ∧ (∀ x ∈ baseD, x.vars.length < 4611686018427387904) := by
    constructor <;> (intro x hx; simp only [baseD, List.mem_cons, List.not_mem_nil, or_false] at hx; rcases hx with rfl | rfl | rfl | rfl | rfl <;> decide)
  constructor
  · intro x hx
    rcases List.mem_append.1 hx with h | h
    · exact hb.1 x h
    · exact hr.cons x h
  · intro x hx
    rcases List.mem_append.1 hx with h | h
    · exact hb.2 x h
    · exact hr.vars x h
theorem allD_len {d : DeclsD} (h : largeB d = false) : (allD d).length ≤ 35 := by
  have hl := largeB_le h
  unfold allD
  rw [List.length_append]
  have : baseD.length = 5 := rfl
  omega
theorem all_copy {d : DeclsD} (hr : RawD d) (h : validD d = 0) : ∀ x ∈ allD d, x.vars.length < 1000000000000 ∧ x.cons.length < 1000000000000 ∧ ∀ c ∈ x.cons, c.args.length < 1000000000000 ∧ ∀ t ∈ c.args, t.cnt < 1000000000000 := by
  have h0 := valid0 h
  have hn := named1 h0.ar
  have ham := allD_mem h0.lg hn
  intro x hx
  have h1 := ham x hx
  refine ⟨by omega, by omega, fun c hc => ?_⟩
  rcases List.mem_append.1 hx with hb | hd
  · have hbase : ∀ x ∈ baseD, ∀ c ∈ x.cons, c.args.length ≤ 8 ∧ ∀ t ∈ c.args, t.cnt ≤ 8 := by decide +kernel
    have := hbase x hb c hc
    exact ⟨by omega, fun t ht => by have := this.2 t ht; omega⟩
  · have h2 := hn.args x hd c hc
    exact ⟨by omega, fun t ht => by have := valid_cnt2 (allV_mem h0.tx t (written_con hd hc ht)); omega⟩
theorem rCon_c (d : DeclsD) (hr : RawD d) (n : ByteArray) (H : AHeap) : ACalls Tryz.prog 6 [d.enc, strV n] H (.tuple [(conD d n).1.enc, intV (conD d n).2.1, intV (conD d n).2.2]) H := by
  have hv := rValid_c d hr
  have hal : validD d = 0 → ∀ H, ACalls Tryz.prog 28 [d.enc] H (.slice ((allD d).map Dat.cells) none) H := fun h => rAll_c d (by have := (largeB_le (valid0 h).lg).1; omega)
  have hfc : validD d = 0 → ∀ H, ACalls Tryz.prog 27 [.slice ((allD d).map Dat.cells) none, strV n] H (.tuple [(findCV (allD d) n).1.enc, intV (findCV (allD d) n).2.1, boolV (findCV (allD d) n).2.2]) H := fun h => rFindCon_c (allD d) (by have := allD_len (valid0 h).lg; omega) (allD_bounds hr).1 n
  have e1 : findCV (allD d) n = match findC (allD d) n with | some (x, k) => (x, (k : Int), true) | none => (zeroDat, 0, false) := rfl
  have e0 : conD d n = if validD d = 0 then (match findC (allD d) n with | some (x, k) => (x, (k : Int), 0) | none => (zeroDat, 0, 4)) else (zeroDat, 0, validD d) := rfl
  generalize conD d n = cd at e0 ⊢
  generalize validD d = vd at *
  generalize findCV (allD d) n = fv at *
  generalize findC (allD d) n = fc at *
  generalize allD d = L at *
  refine acalls_walk (fun _ => .imm) [0, 1, 2, 4, 5, 6, 7, 8, 9, 10, 14, 26] Tryz.mixed Tryz.func6 rfl rfl rfl (by decide) (fun hcl hlow => ?_)
  repeat with_reducible refine awp_assoc ?_
  refine awp_sr fun K hK => ?_
  simp
  refine hK _ _ ?_
  clear hK K
  repeat with_reducible refine awp_assoc ?_
  refine awp_sr fun K hK => ?_
  refine aOps_split 1 fun K hK => ?_
  simp
  refine hK _ _ ?_
  clear hK K
  refine aOps_call (hv _) (by first | rfl | simp) rfl rfl (by first | (simp; done) | rfl) ?_
  simp
  refine hK _ _ ?_
  clear hK K
  by_cases h0 : vd = 0
  rotate_left
  · rw [if_neg h0] at e0
    repeat with_reducible refine awp_assoc ?_
    refine awp_sr fun K hK => ?_
    simp [h0]
    refine hK _ _ ?_
    clear hK K
    repeat with_reducible refine awp_assoc ?_
    refine awp_seq_k fun K hK => ?_
    refine awp_condT rfl (by simp [h0]) ?_
    repeat with_reducible refine awp_assoc ?_
    refine awp_sr fun K hK => ?_
    simp
    refine hK _ _ ?_
    clear hK K
    rw [e0]
    simp [zeroDat, reset_all hcl]
    exact Wk.tuple ⟨Wk.agg ⟨.refl _, Wk.nilSlice, Wk.nilSlice, trivial⟩, .refl _, .refl _, trivial⟩
  rw [if_pos h0] at e0
  repeat with_reducible refine awp_assoc ?_
  refine awp_sr fun K hK => ?_
  simp [h0]
  refine hK _ _ ?_
  clear hK K
  repeat with_reducible refine awp_assoc ?_
  refine awp_seq_k fun K hK => ?_
  refine awp_condF rfl (by simp [h0]) ?_
  refine awp_skip ?_
  refine hK _ _ ?_
  clear hK K
  cases fc with
  | none =>
    simp only at e0 e1
    rw [e1] at hfc
    repeat with_reducible refine awp_assoc ?_
    refine awp_sr fun K hK => ?_
    refine aOps_split 1 fun K hK => ?_
    simp
    refine hK _ _ ?_
    clear hK K
    refine aOps_call (hal h0 _) (by first | rfl | simp) rfl rfl (by first | (simp; done) | rfl) ?_
    refine aOps_split 1 fun K hK => ?_
    simp
    refine hK _ _ ?_
    clear hK K
    refine aOps_call (hfc h0 _) (by first | rfl | simp) rfl rfl (by first | (simp; done) | rfl) ?_
    refine aOps_split 6 fun K hK => ?_
    simp
    refine hK _ _ ?_
    clear hK K
    simp
    refine hK _ _ ?_
    clear hK K
    repeat with_reducible refine awp_assoc ?_
    refine awp_sr fun K hK => ?_
    simp
    refine hK _ _ ?_
    clear hK K
    repeat with_reducible refine awp_assoc ?_
    refine awp_seq_k fun K hK => ?_
    refine awp_condT rfl (by simp) ?_
    repeat with_reducible refine awp_assoc ?_
    refine awp_sr fun K hK => ?_
    simp
    refine hK _ _ ?_
    clear hK K
    rw [e0]
    simp [zeroDat, reset_all hcl]
    exact Wk.tuple ⟨Wk.agg ⟨.refl _, Wk.nilSlice, Wk.nilSlice, trivial⟩, .refl _, .refl _, trivial⟩
  | some p =>
    obtain ⟨x, k⟩ := p
    simp only at e0 e1
    rw [e1] at hfc
    repeat with_reducible refine awp_assoc ?_
    refine awp_sr fun K hK => ?_
    refine aOps_split 1 fun K hK => ?_
    simp
    refine hK _ _ ?_
    clear hK K
    refine aOps_call (hal h0 _) (by first | rfl | simp) rfl rfl (by first | (simp; done) | rfl) ?_
    refine aOps_split 1 fun K hK => ?_
    simp
    refine hK _ _ ?_
    clear hK K
    refine aOps_call (hfc h0 _) (by first | rfl | simp) rfl rfl (by first | (simp; done) | rfl) ?_
    refine aOps_split 6 fun K hK => ?_
    simp
    refine hK _ _ ?_
    clear hK K
    simp
    refine hK _ _ ?_
    clear hK K
    repeat with_reducible refine awp_assoc ?_
    refine awp_sr fun K hK => ?_
    simp
    refine hK _ _ ?_
    clear hK K
    repeat with_reducible refine awp_assoc ?_
    refine awp_seq_k fun K hK => ?_
    refine awp_condF rfl (by simp) ?_
    refine awp_skip ?_
    refine hK _ _ ?_
    clear hK K
    repeat with_reducible refine awp_assoc ?_
    refine awp_sr fun K hK => ?_
    simp
    refine hK _ _ ?_
    clear hK K
    rw [e0]
    simp [reset_all hcl]
theorem dCon_c (d : DeclsD) (hr : RawD d) (n : ByteArray) (H : AHeap) : ACalls Tryz.prog 5 [d.enc, strV n] H (.tuple [(conD d n).1.enc, intV (conD d n).2.1, intV (conD d n).2.2]) H := by
  have hv := dValidate_c d hr
  have hal : validD d = 0 → ∀ H, ACalls Tryz.prog 25 [d.enc] H (.slice ((allD d).map Dat.cells) none) H := fun h => dAll_c d (by have := (largeB_le (valid0 h).lg).1; omega)
  have hcp : validD d = 0 → ∀ x ∈ allD d, ∀ H, ACalls Tryz.prog 26 [x.enc] H x.enc H := fun h x hx => copied_c x (all_copy hr h x hx).1 (all_copy hr h x hx).2.1 (fun c hc => ⟨((all_copy hr h x hx).2.2 c hc).1, fun t ht => by have := ((all_copy hr h x hx).2.2 c hc).2 t ht; omega⟩)
  have hll : validD d = 0 → (allD d).length < 4611686018427387904 := fun h => by have := allD_len (valid0 h).lg; omega
  have hcl2 := (allD_bounds hr).1
  have e0 : conD d n = if validD d = 0 then (match findC (allD d) n with | some (x, k) => (x, (k : Int), 0) | none => (zeroDat, 0, 4)) else (zeroDat, 0, validD d) := rfl
  generalize conD d n = cd at e0 ⊢
  generalize validD d = vd at *
  generalize allD d = l at *
  refine acalls_walk (fun _ => .imm) [0, 1, 2, 4, 5, 6, 7, 9, 10, 11, 15, 19, 20, 21, 22, 26, 27, 28, 29, 36] Tryz.mixed Tryz.func5 rfl rfl rfl (by decide) (fun hcl hlow => ?_)
  repeat with_reducible refine awp_assoc ?_
  refine awp_sr fun K hK => ?_
  simp
  refine hK _ _ ?_
  clear hK K
  repeat with_reducible refine awp_assoc ?_
  refine awp_sr fun K hK => ?_
  refine aOps_split 1 fun K hK => ?_
  simp
  refine hK _ _ ?_
  clear hK K
  refine aOps_call (hv _) (by first | rfl | simp) rfl rfl (by first | (simp; done) | rfl) ?_
  simp
  refine hK _ _ ?_
  clear hK K
  by_cases h0 : vd = 0
  rotate_left
  · rw [if_neg h0] at e0
    repeat with_reducible refine awp_assoc ?_
    refine awp_sr fun K hK => ?_
    simp [h0]
    refine hK _ _ ?_
    clear hK K
    repeat with_reducible refine awp_assoc ?_
    refine awp_seq_k fun K hK => ?_
    refine awp_condT rfl (by simp [h0]) ?_
    repeat with_reducible refine awp_assoc ?_
    refine awp_sr fun K hK => ?_
    simp
    refine hK _ _ ?_
    clear hK K
    rw [e0]
    simp [zeroDat, reset_all hcl]
    exact Wk.tuple ⟨Wk.agg ⟨.refl _, Wk.nilSlice, Wk.nilSlice, trivial⟩, .refl _, .refl _, trivial⟩
  rw [if_pos h0] at e0
  have hcp2 := hcp h0
  have hll2 := hll h0
  clear hcp hll
  repeat with_reducible refine awp_assoc ?_
  refine awp_sr fun K hK => ?_
  simp [h0]
  refine hK _ _ ?_
  clear hK K
  repeat with_reducible refine awp_assoc ?_
  refine awp_seq_k fun K hK => ?_
  refine awp_condF rfl (by simp [h0]) ?_
  refine awp_skip ?_
  refine hK _ _ ?_
  clear hK K
  repeat with_reducible refine awp_assoc ?_
  refine awp_sr fun K hK => ?_
  refine aOps_split 1 fun K hK => ?_
  simp
  refine hK _ _ ?_
  clear hK K
  refine aOps_call (hal h0 _) (by first | rfl | simp) rfl rfl (by first | (simp; done) | rfl) ?_
  simp
  refine hK _ _ ?_
  clear hK K
  repeat with_reducible refine awp_assoc ?_
  refine awp_seq_k fun K hK => ?_
  refine awp_block ?_
  refine awp_up l.length (fun k => Env.ofL [(1, strV n), (4, .ref (nid H.next 1) 0), (19, .slice (l.map Dat.cells) none), (20, intV (l.length : Int)), (21, intV k)]) (fun k => HL H [.cells d.cells, .cells [strV ByteArray.empty, .v (.slice none 0 0), .v (.slice none 0 0)]]) (fun k => ∀ y ∈ l.take k, ∀ c ∈ y.cons, (decide (c.name = n)) = false) (weak_HL hcl rfl (by simp [low_decls]) (by simp [low_decls])) (by simp) (fun k hk hvk => ?_) (fun hvk => ?_)
  · obtain ⟨x, hx⟩ : ∃ x, l[k]? = some x := ⟨_, List.getElem?_eq_getElem hk⟩
    have g5 := hcl2 x (List.mem_of_getElem? hx)
    have hc2 := hcp2 x (List.mem_of_getElem? hx)
    repeat with_reducible refine awp_assoc ?_
    refine awp_sr fun K hK => ?_
    simp [hk]
    refine hK _ _ ?_
    clear hK K
    repeat with_reducible refine awp_assoc ?_
    refine awp_seq_k fun K hK => ?_
    refine awp_condT rfl (by simp) ?_
    refine awp_skip ?_
    refine hK _ _ ?_
    clear hK K
    refine awp_seq_k fun KB hKB => ?_
    refine awp_block ?_
    repeat with_reducible refine awp_assoc ?_
    refine awp_sr fun K hK => ?_
    simp [hx]
    refine hK _ _ ?_
    clear hK K
    repeat with_reducible refine awp_assoc ?_
    refine awp_sr fun K hK => ?_
    simp
    refine hK _ _ ?_
    clear hK K
    refine awp_hide fun Q hQ => ?_
    refine awp_block ?_
    refine awp_up x.cons.length (fun j => Env.ofL [(1, strV n), (4, .ref (nid H.next 1) 0), (9, .ref (nid H.next 2) 0), (19, .slice (l.map Dat.cells) none), (20, intV (l.length : Int)), (21, intV k), (26, .slice (x.cons.map ConD.cells) none), (27, intV (x.cons.length : Int)), (28, intV j)]) (fun j => HL H [.cells d.cells, .cells [strV ByteArray.empty, .v (.slice none 0 0), .v (.slice none 0 0)], .cells [strV x.name, strs x.vars none, .slice (x.cons.map ConD.cells) none]]) (fun j => ∀ c ∈ x.cons.take j, (decide (c.name = n)) = false) (weak_HL hcl rfl (by simp [low_decls, strs, low_strs]) (by simp [low_decls, strs, low_strs])) (by simp) (fun j hj hvj => ?_) (fun hvj => ?_)
    · obtain ⟨c, hc⟩ : ∃ c, x.cons[j]? = some c := ⟨_, List.getElem?_eq_getElem hj⟩
      repeat with_reducible refine awp_assoc ?_
      refine awp_sr fun K hK => ?_
      simp [hj]
      refine hK _ _ ?_
      clear hK K
      repeat with_reducible refine awp_assoc ?_
      refine awp_seq_k fun K hK => ?_
      refine awp_condT rfl (by simp) ?_
      refine awp_skip ?_
      refine hK _ _ ?_
      clear hK K
      refine awp_seq_k fun KC hKC => ?_
      refine awp_block ?_
      repeat with_reducible refine awp_assoc ?_
      refine awp_sr fun K hK => ?_
      simp [hc]
      refine hK _ _ ?_
      clear hK K
      repeat with_reducible refine awp_assoc ?_
      refine awp_sr fun K hK => ?_
      simp
      refine hK _ _ ?_
      clear hK K
      by_cases hs : c.name = n
      · refine awp_condT rfl (by simp [hs]) ?_
        obtain ⟨xn, xv, xc⟩ := x
        simp only at hc hvj hx hc2 hvk
        repeat with_reducible refine awp_assoc ?_
        refine awp_sr fun K hK => ?_
        refine aOps_split 1 fun K hK => ?_
        simp
        refine hK _ _ ?_
        clear hK K
        refine aOps_call (hc2 _) (by first | rfl | simp) rfl rfl (by first | (simp; done) | rfl) ?_
        simp
        refine hK _ _ ?_
        clear hK K
        refine hQ _ _ _ ?_
        rw [e0, findC_at hx hvk hc hs hvj]
        simp [reset_all hcl, strs]
      · refine awp_condF rfl (by simp [hs]) ?_
        refine awp_skip ?_
        refine hKC _ _ ?_
        clear hKC
        refine awp_region ?_
        simp [wrap_succ (show j < 4611686018427387904 by omega)]
        refine ⟨?_, weak_HL hcl rfl (by simp [low_decls, strs, low_strs]) (by simp [low_decls, strs, low_strs])⟩
        simpa using take_all (p := fun y : ConD => (decide (y.name = n)) = false) hc (by simpa using hs) hvj
    rw [List.take_length] at hvj
    repeat with_reducible refine awp_assoc ?_
    refine awp_sr fun K hK => ?_
    simp
    refine hK _ _ ?_
    clear hK K
    repeat with_reducible refine awp_assoc ?_
    refine awp_seq_k fun K hK => ?_
    refine awp_condF rfl (by simp) ?_
    refine awp_exit ?_
    simp
    refine hQ _ _ _ ?_
    refine hKB _ _ ?_
    clear hKB
    refine awp_region ?_
    simp [wrap_succ (show k < 4611686018427387904 by omega)]
    refine ⟨?_, weak_HL hcl rfl (by simp [low_decls, strs, low_strs]) (by simp [low_decls, strs, low_strs])⟩
    simpa using take_all (p := fun y : Dat => ∀ c ∈ y.cons, (decide (c.name = n)) = false) hx hvj hvk
  rw [List.take_length] at hvk
  repeat with_reducible refine awp_assoc ?_
  refine awp_sr fun K hK => ?_
  simp
  refine hK _ _ ?_
  clear hK K
  repeat with_reducible refine awp_assoc ?_
  refine awp_seq_k fun K hK => ?_
  refine awp_condF rfl (by simp) ?_
  refine awp_exit ?_
  simp
  clear hK K
  refine hK _ _ ?_
  clear hK K
  repeat with_reducible refine awp_assoc ?_
  refine awp_sr fun K hK => ?_
  simp
  refine hK _ _ ?_
  clear hK K
  rw [e0, findC_none hvk]
  simp [zeroDat, reset_all hcl]
  exact Wk.tuple ⟨Wk.agg ⟨.refl _, Wk.nilSlice, Wk.nilSlice, trivial⟩, .refl _, .refl _, trivial⟩
noncomputable def knownD (d : DeclsD) (t : Ty) : Int := if t.nodes.any (badT (allD d)) = true then 4 else if t.nodes.any (badA (allD d)) = true then 8 else 0
theorem rKnown_c (d : DeclsD) (hl : d.datas.length < 1000000000000) (t : Ty) (ht : t.cnt < 4611686018427387904) (H : AHeap) : ACalls Tryz.prog 56 [d.enc, t.enc] H (intV (knownD d t)) H := by
  have hal := rAll_c d hl
  have hll : (allD d).length < 4611686018427387904 := by simp [allD, baseD]; omega
  have h1 := rIsThere_c (allD d) hll t ht
  have h2 := rIsApplied_c (allD d) hll t ht
  have e0 : knownD d t = if t.nodes.any (badT (allD d)) = true then 4 else if t.nodes.any (badA (allD d)) = true then 8 else 0 := rfl
  generalize knownD d t = kd at e0 ⊢
  generalize t.nodes.any (badT (allD d)) = b1 at *
  generalize t.nodes.any (badA (allD d)) = b2 at *
  generalize allD d = L at *
  obtain ⟨n, l⟩ := t
  simp only [enc_mk] at h1 h2 ⊢
  refine acalls_walk (fun _ => .imm) [0, 1, 2, 3, 4, 5, 8, 13] Tryz.mixed Tryz.func56 rfl rfl rfl (by decide) (fun hcl hlow => ?_)
  repeat with_reducible refine awp_assoc ?_
  refine awp_sr fun K hK => ?_
  simp
  refine hK _ _ ?_
  clear hK K
  repeat with_reducible refine awp_assoc ?_
  refine awp_sr fun K hK => ?_
  refine aOps_split 1 fun K hK => ?_
  simp
  refine hK _ _ ?_
  clear hK K
  refine aOps_call (hal _) (by first | rfl | simp) rfl rfl (by first | (simp; done) | rfl) ?_
  simp
  refine hK _ _ ?_
  clear hK K
  refine awp_seq_k fun K hK => ?_
  refine awp_block ?_
  repeat with_reducible refine awp_assoc ?_
  refine awp_sr fun K hK => ?_
  refine aOps_split 2 fun K hK => ?_
  simp
  refine hK _ _ ?_
  clear hK K
  refine aOps_call (h1 _) (by first | rfl | simp) rfl rfl (by first | (simp; done) | rfl) ?_
  simp
  refine hK _ _ ?_
  clear hK K
  cases b1
  rotate_left
  · refine awp_condT rfl (by simp) ?_
    repeat with_reducible refine awp_assoc ?_
    refine awp_sr fun K hK => ?_
    simp
    refine hK _ _ ?_
    clear hK K
    rw [e0]
    simp [reset_all hcl]
  refine awp_condF rfl (by simp) ?_
  repeat with_reducible refine awp_assoc ?_
  refine awp_sr fun K hK => ?_
  refine aOps_split 2 fun K hK => ?_
  simp
  refine hK _ _ ?_
  clear hK K
  refine aOps_call (h2 _) (by first | rfl | simp) rfl rfl (by first | (simp; done) | rfl) ?_
  simp
  refine hK _ _ ?_
  clear hK K
  cases b2
  rotate_left
  · refine awp_condT rfl (by simp) ?_
    repeat with_reducible refine awp_assoc ?_
    refine awp_sr fun K hK => ?_
    simp
    refine hK _ _ ?_
    clear hK K
    rw [e0]
    simp [reset_all hcl]
  refine awp_condF rfl (by simp) ?_
  refine awp_skip ?_
  refine hK _ _ ?_
  clear hK K
  repeat with_reducible refine awp_assoc ?_
  refine awp_sr fun K hK => ?_
  simp
  refine hK _ _ ?_
  clear hK K
  rw [e0]
  simp [reset_all hcl]
theorem known_same {d : DeclsD} (h : validD d = 0) {t : Ty} (ht : t.valid = 0) : knownD d t = (if kindsV d 4 t = 0 then kindsV d 8 t else kindsV d 4 t) := by
  have h0 := valid0 h
  have hg := valid_good ht
  have e1 : t.nodes.any (badT (allD d)) = t.nodes.any (kindB d 4) := any_nodes hg fun n hn => badT_kind d hn
  have e2 : t.nodes.any (badA (allD d)) = t.nodes.any (kindB d 8) := any_nodes hg fun n _ => badA_kind d (all_great h0.ar) (all_notInt h0.tw) n
  unfold knownD kindsV
  rw [e1, e2]
  cases t.nodes.any (kindB d 4) <;> simp
theorem rKinds_c (d : DeclsD) (hr : RawD d) (t : Ty) (H : AHeap) : ACalls Tryz.prog 16 [d.enc, t.enc] H (intV (kindsD d t)) H := by
  have hv := rValid_c d hr
  have hvt := rValidate_c t
  have hkn : validD d = 0 → t.valid = 0 → ∀ H, ACalls Tryz.prog 56 [d.enc, t.enc] H (intV (if kindsV d 4 t = 0 then kindsV d 8 t else kindsV d 4 t)) H := fun h h2 H => by
    rw [← known_same h h2]
    exact rKnown_c d (by have := (largeB_le (valid0 h).lg).1; omega) t (by have := valid_cnt2 h2; omega) H
  have e0 : kindsD d t = if validD d = 0 then (if t.valid = 0 then (if kindsV d 4 t = 0 then kindsV d 8 t else kindsV d 4 t) else t.valid) else validD d := rfl
  generalize kindsD d t = kd at e0 ⊢
  generalize validD d = vd at *
  generalize (if kindsV d 4 t = 0 then kindsV d 8 t else kindsV d 4 t) = kk at *
  generalize t.valid = tv at *
  obtain ⟨n, l⟩ := t
  simp only [enc_mk] at hvt hkn ⊢
  refine acalls_walk (fun _ => .imm) [0, 1, 2, 3, 4, 5, 6, 10, 15] Tryz.mixed Tryz.func16 rfl rfl rfl (by decide) (fun hcl hlow => ?_)
  repeat with_reducible refine awp_assoc ?_
  refine awp_sr fun K hK => ?_
  simp
  refine hK _ _ ?_
  clear hK K
  repeat with_reducible refine awp_assoc ?_
  refine awp_sr fun K hK => ?_
  refine aOps_split 1 fun K hK => ?_
  simp
  refine hK _ _ ?_
  clear hK K
  refine aOps_call (hv _) (by first | rfl | simp) rfl rfl (by first | (simp; done) | rfl) ?_
  simp
  refine hK _ _ ?_
  clear hK K
  by_cases h0 : vd = 0
  rotate_left
  · rw [if_neg h0] at e0
    repeat with_reducible refine awp_assoc ?_
    refine awp_sr fun K hK => ?_
    simp [h0]
    refine hK _ _ ?_
    clear hK K
    repeat with_reducible refine awp_assoc ?_
    refine awp_seq_k fun K hK => ?_
    refine awp_condT rfl (by simp [h0]) ?_
    repeat with_reducible refine awp_assoc ?_
    refine awp_sr fun K hK => ?_
    simp
    refine hK _ _ ?_
    clear hK K
    rw [e0]
    simp [reset_all hcl]
  rw [if_pos h0] at e0
  repeat with_reducible refine awp_assoc ?_
  refine awp_sr fun K hK => ?_
  simp [h0]
  refine hK _ _ ?_
  clear hK K
  repeat with_reducible refine awp_assoc ?_
  refine awp_seq_k fun K hK => ?_
  refine awp_condF rfl (by simp [h0]) ?_
  refine awp_skip ?_
  refine hK _ _ ?_
  clear hK K
  repeat with_reducible refine awp_assoc ?_
  refine awp_sr fun K hK => ?_
  refine aOps_split 1 fun K hK => ?_
  simp
  refine hK _ _ ?_
  clear hK K
  refine aOps_call (hvt _) (by first | rfl | simp) rfl rfl (by first | (simp; done) | rfl) ?_
  simp
  refine hK _ _ ?_
  clear hK K
  by_cases h1 : tv = 0
  rotate_left
  · rw [if_neg h1] at e0
    repeat with_reducible refine awp_assoc ?_
    refine awp_sr fun K hK => ?_
    simp [h1]
    refine hK _ _ ?_
    clear hK K
    repeat with_reducible refine awp_assoc ?_
    refine awp_seq_k fun K hK => ?_
    refine awp_condT rfl (by simp [h1]) ?_
    repeat with_reducible refine awp_assoc ?_
    refine awp_sr fun K hK => ?_
    simp
    refine hK _ _ ?_
    clear hK K
    rw [e0]
    simp [reset_all hcl]
  rw [if_pos h1] at e0
  repeat with_reducible refine awp_assoc ?_
  refine awp_sr fun K hK => ?_
  simp [h1]
  refine hK _ _ ?_
  clear hK K
  repeat with_reducible refine awp_assoc ?_
  refine awp_seq_k fun K hK => ?_
  refine awp_condF rfl (by simp [h1]) ?_
  refine awp_skip ?_
  refine hK _ _ ?_
  clear hK K
  repeat with_reducible refine awp_assoc ?_
  refine awp_sr fun K hK => ?_
  refine aOps_split 2 fun K hK => ?_
  simp
  refine hK _ _ ?_
  clear hK K
  refine aOps_call (hkn h0 h1 _) (by first | rfl | simp) rfl rfl (by first | (simp; done) | rfl) ?_
  simp
  refine hK _ _ ?_
  clear hK K
  rw [e0]
  simp [reset_all hcl]
theorem cls_neg {l : List ClsD} {n : ByteArray} : (clsV l n).2 = !decide (classI l n < 0) := by
  unfold clsV classI
  cases h : l.findIdx? fun x => decide (x.name = n) with
  | none => rw [List.findIdx?_eq_none_iff] at h; rw [find_none h]; simp [ixI]
  | some i =>
    obtain ⟨hl, h1, h2⟩ := List.findIdx?_eq_some_iff_getElem.1 h
    have hfd : l.find? (fun x => decide (x.name = n)) = some l[i] := by
      rw [List.find?_eq_some_iff_getElem]
      exact ⟨h1, i, hl, rfl, fun j hj => by simpa using h2 j hj⟩
    rw [hfd]
    simp [ixI]
    exact decide_eq_false (by omega)
theorem rSupers_c (d : DeclsD) (hr : RawD d) (n : ByteArray) (H : AHeap) : ACalls Tryz.prog 8 [d.enc, strV n] H (.tuple [strs (supersD d n).1 none, intV (supersD d n).2]) H := by
  have hv := rValid_c d hr
  have hcc := rFindClass_c d.classes hr.classes n
  have hab : validD d = 0 → ∀ H, ACalls Tryz.prog 33 [.slice (d.classes.map ClsD.cells) none, strV n] H (strs (abv d.classes n) none) H := fun h => rAbove2_c d (clsOk_of hr (valid0 h).lg (valid0 h).no) n
  have hso : validD d = 0 → ∀ H, ACalls Tryz.prog 32 [strs (abv d.classes n) none] H (strs (sortS (abv d.classes n)) none) H := fun h => by
    obtain ⟨⟨f, hf⟩, hl⟩ := (clsOk_of hr (valid0 h).lg (valid0 h).no).ab n
    exact rSorted_c _ ((aboveF_facts hf).2 List.nodup_nil) hl
  have hcn := cls_neg (l := d.classes) (n := n)
  have e0 : supersD d n = if validD d = 0 then (if classI d.classes n < 0 then ([], 4) else (sortS (abv d.classes n), 0)) else ([], validD d) := rfl
  generalize supersD d n = sd at e0 ⊢
  generalize validD d = vd at *
  generalize sortS (abv d.classes n) = S at *
  generalize abv d.classes n = A at *
  generalize classI d.classes n = ci at *
  generalize clsV d.classes n = cv at *
  obtain ⟨⟨cn, csu, cop⟩, cb⟩ := cv
  simp only at hcc hcn
  subst hcn
  refine acalls_walk (fun _ => .imm) [0, 1, 2, 4, 5, 6, 8, 12, 22] Tryz.mixed Tryz.func8 rfl rfl rfl (by decide) (fun hcl hlow => ?_)
  repeat with_reducible refine awp_assoc ?_
  refine awp_sr fun K hK => ?_
  simp
  refine hK _ _ ?_
  clear hK K
  repeat with_reducible refine awp_assoc ?_
  refine awp_sr fun K hK => ?_
  refine aOps_split 1 fun K hK => ?_
  simp
  refine hK _ _ ?_
  clear hK K
  refine aOps_call (hv _) (by first | rfl | simp) rfl rfl (by first | (simp; done) | rfl) ?_
  simp
  refine hK _ _ ?_
  clear hK K
  by_cases h0 : vd = 0
  rotate_left
  · rw [if_neg h0] at e0
    repeat with_reducible refine awp_assoc ?_
    refine awp_sr fun K hK => ?_
    simp [h0]
    refine hK _ _ ?_
    clear hK K
    repeat with_reducible refine awp_assoc ?_
    refine awp_seq_k fun K hK => ?_
    refine awp_condT rfl (by simp [h0]) ?_
    repeat with_reducible refine awp_assoc ?_
    refine awp_sr fun K hK => ?_
    simp
    refine hK _ _ ?_
    clear hK K
    rw [e0]
    simp [reset_all hcl]
    exact Wk.tuple ⟨Wk.nilSlice, .refl _, trivial⟩
  rw [if_pos h0] at e0
  repeat with_reducible refine awp_assoc ?_
  refine awp_sr fun K hK => ?_
  simp [h0]
  refine hK _ _ ?_
  clear hK K
  repeat with_reducible refine awp_assoc ?_
  refine awp_seq_k fun K hK => ?_
  refine awp_condF rfl (by simp [h0]) ?_
  refine awp_skip ?_
  refine hK _ _ ?_
  clear hK K
  repeat with_reducible refine awp_assoc ?_
  refine awp_sr fun K hK => ?_
  refine aOps_split 3 fun K hK => ?_
  simp
  refine hK _ _ ?_
  clear hK K
  refine aOps_call (hcc _) (by first | rfl | simp) rfl rfl (by first | (simp; done) | rfl) ?_
  simp
  refine hK _ _ ?_
  clear hK K
  by_cases h1 : ci < 0
  · rw [if_pos h1] at e0
    repeat with_reducible refine awp_assoc ?_
    refine awp_sr fun K hK => ?_
    simp [h1]
    refine hK _ _ ?_
    clear hK K
    repeat with_reducible refine awp_assoc ?_
    refine awp_seq_k fun K hK => ?_
    refine awp_condT rfl (by simp [h1]) ?_
    repeat with_reducible refine awp_assoc ?_
    refine awp_sr fun K hK => ?_
    simp
    refine hK _ _ ?_
    clear hK K
    rw [e0]
    simp [reset_all hcl]
    exact Wk.tuple ⟨Wk.nilSlice, .refl _, trivial⟩
  rw [if_neg h1] at e0
  repeat with_reducible refine awp_assoc ?_
  refine awp_sr fun K hK => ?_
  simp [h1]
  refine hK _ _ ?_
  clear hK K
  repeat with_reducible refine awp_assoc ?_
  refine awp_seq_k fun K hK => ?_
  refine awp_condF rfl (by simp [h1]) ?_
  refine awp_skip ?_
  refine hK _ _ ?_
  clear hK K
  repeat with_reducible refine awp_assoc ?_
  refine awp_sr fun K hK => ?_
  refine aOps_split 3 fun K hK => ?_
  simp
  refine hK _ _ ?_
  clear hK K
  refine aOps_call (hab h0 _) (by first | rfl | simp) rfl rfl (by first | (simp; done) | rfl) ?_
  refine aOps_call (hso h0 _) (by first | rfl | simp) rfl rfl (by first | (simp; done) | rfl) ?_
  simp
  refine hK _ _ ?_
  clear hK K
  rw [e0]
  simp [reset_all hcl]
end Go.Proofs.YthjmaemdjgajbaaGreat
