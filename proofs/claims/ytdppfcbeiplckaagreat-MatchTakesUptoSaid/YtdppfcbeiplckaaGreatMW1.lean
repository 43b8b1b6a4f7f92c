/- Types as the program holds them, and simp's set for the walks. -/
import Derived.Test.YtdppfcbeiplckaaGreatMF
set_option linter.unusedVariables false
set_option linter.unusedSimpArgs false
namespace Go.Proofs.YtdppfcbeiplckaaGreat
open Go Go.Abs Go.Proofs
inductive Ty where
 | mk (name:ByteArray) (args:List Ty)
mutual
def Ty.cells:Ty→List AV
 | .mk n l=>[.v (.string n),.slice (cellsL l) none]
def cellsL:List Ty→List (List AV)
 | []=>[]
 | t::ts=>t.cells::cellsL ts
end
def Ty.enc (t:Ty):AV:=.agg t.cells
mutual
theorem Ty.low (n:Nat):∀ t:Ty,lowL n t.cells
 | .mk _ l=>⟨trivial,⟨by simp,lowTs n l⟩,trivial⟩
theorem lowTs (n:Nat):∀ l:List Ty,lowR n (cellsL l)
 | []=>trivial
 | t::ts=>⟨t.low n,lowTs n ts⟩
end
mutual
theorem Ty.ind {p:Ty→Prop} (h:∀ n l,(∀ t∈l,p t)→p (.mk n l)):∀ t,p t
 | .mk n l=>h n l (Ty.indL h l)
theorem Ty.indL {p:Ty→Prop} (h:∀ n l,(∀ t∈l,p t)→p (.mk n l)):∀ l:List Ty,∀ t∈l,p t
 | [],t,ht=>absurd ht (by simp)
 | x::l,t,ht=>by
  rcases List.mem_cons.1 ht with e | ht
  ·rw [e];exact Ty.ind h x
  ·exact Ty.indL h l t ht
end
mutual
def Ty.nodes:Ty→List Ty
 | .mk n l=>.mk n l::nodesL l
def nodesL:List Ty→List Ty
 | []=>[]
 | t::ts=>t.nodes++nodesL ts
end
theorem nodesL_append (a b:List Ty):nodesL (a++b)=nodesL a++nodesL b:=by
 induction a with
 | nil=>rfl
 | cons t ts ih=>simp [nodesL,ih]
theorem nodesL_take {l:List Ty} {k:Nat} {t:Ty} (h:l[k]?=some t):nodesL (l.take (k+1))=nodesL (l.take k)++t.nodes:=by
 rw [List.take_add_one,nodesL_append,h];simp [nodesL]
def Ty.cnt (t:Ty):Nat:=t.nodes.length
theorem Ty.cnt_pos:∀ t:Ty,0 < t.cnt
 | .mk _ _=>by simp [Ty.cnt,Ty.nodes]
theorem nodesL_len (l:List Ty):l.length≤(nodesL l).length:=by
 induction l with
 | nil=>simp
 | cons t ts ih=>have:=t.cnt_pos;simp [nodesL,Ty.cnt] at this ⊢;omega
theorem cellsL_eq (l:List Ty):cellsL l=l.map Ty.cells:=by
 induction l with
 | nil=>rfl
 | cons t ts ih=>simp [cellsL,ih]
theorem Ty.cells_length (t:Ty):t.cells.length=2:=by cases t;rfl
theorem Ty.cells_one (t:Ty):t.cells.all (·.one)=true:=by cases t;rfl
theorem low_map (n:Nat) (l:List Ty):lowR n (l.map Ty.cells):=by rw [←cellsL_eq];exact lowTs n l
theorem low_take (n k:Nat) (l:List Ty):lowR n ((l.map Ty.cells).take k):=lowR_take k (low_map n l)
@[simp] theorem intbeq (a b:Int):(a == b)=decide (a=b):=rfl
@[simp] theorem intbne (a b:Int):(a != b)=!decide (a=b):=rfl
theorem wrap64 {z:Int} (h:-9223372036854775808≤z) (h2:z < 9223372036854775808):IntKind.i64.wrap z=z:=by
 simp [IntKind.wrap,IntKind.bits,IntKind.signed];omega
theorem wrap_succ {k:Nat} (h:k < 4611686018427387904):IntKind.i64.wrap ((k:Int)+1)=((k+1:Nat):Int):=by
 rw [wrap64 (by omega) (by omega)];omega
abbrev byteV (c:UInt8):AV:=.v (.int .u8 c.toNat)
abbrev boolV (b:Bool):AV:=.v (.bool b)
abbrev strV (s:ByteArray):AV:=.v (.string s)
abbrev intV (n:Int):AV:=.v (.int .i64 n)
theorem low_comp {α:Type} (n:Nat) (f:α→Ty) (l:List α):lowR n (l.map (Ty.cells ∘ f)):=lowR_map fun x _=>(f x).low n
theorem low_tcomp {α:Type} (n k:Nat) (f:α→Ty) (l:List α):lowR n ((l.map (Ty.cells ∘ f)).take k):=lowR_take k (low_comp n f l)
theorem wkEs_refl' (l:List (Value × AV)):WkEs l l↔True:=⟨fun _=>trivial,fun _=>.refl l⟩
theorem low_strs (n:Nat) (l:List ByteArray):lowR n (l.map fun w=>[strV w]):=lowR_map fun _ _=>⟨trivial,trivial⟩
theorem ba_size (s:ByteArray):s.size=s.data.toList.length:=rfl
set_option maxRecDepth 20000
attribute [local simp] aOps wantedA aStep aop aLoad aStore aBin aUn aFieldAddr aField aIndexAddr aIndex aLen aBuild aFill aAlloc aAppend aAppendOwn aMin aMax aBuildSlice litRows newRows isMut isOwn isNilS nilsW bytesR tokW tokAV tokL ret readC splice aeval isLit isLate isCut aCut AV.celled AV.one AV.ofValue Value.oneCell' Value.cells intOp strOp get_nid upd_nid awp aEnd aResults aResult Det unord isCall isNext
attribute [local simp] low_take low_strs low_comp low_tcomp wkEs_refl' WkBs WkEnv WkB WkL WkE WkO ABlock.low lowO lowL lowR AV.low cellsL_eq Ty.low low_map Ty.cells_length Ty.cells_one
def smallB (c:UInt8):Bool:=decide ((97:Int)≤c.toNat) && decide ((c.toNat:Int)≤122)
def greatB (c:UInt8):Bool:=decide ((65:Int)≤c.toNat) && decide ((c.toNat:Int)≤90)
def letterB (c:UInt8):Bool:=smallB c || greatB c
def digitB (c:UInt8):Bool:=decide ((48:Int)≤c.toNat) && decide ((c.toNat:Int)≤57)
def tailB (c:UInt8):Bool:=letterB c || digitB c || decide ((c.toNat:Int)=95)
theorem isSmall_c (c:UInt8) (H:AHeap):ACalls Tryz.prog 264 [byteV c] H (boolV (smallB c)) H:=by
 refine acalls_walk (fun _=>.imm) [0,2] Tryz.mixed Tryz.func264 rfl rfl rfl (by decide) (fun hcl hlow=>?_)
 repeat with_reducible refine awp_assoc ?_
 refine awp_sr fun K hK=>?_
 simp
 refine hK _ _ ?_
 clear hK K
 by_cases h:(97:Int)≤c.toNat
 ·repeat with_reducible refine awp_assoc ?_
  refine awp_sr fun K hK=>?_
  simp [h]
  refine hK _ _ ?_
  clear hK K
  simp [smallB,h,reset_all hcl]
 ·repeat with_reducible refine awp_assoc ?_
  refine awp_sr fun K hK=>?_
  simp [h]
  refine hK _ _ ?_
  clear hK K
  simp [smallB,h,reset_all hcl]
theorem isDigit_c (c:UInt8) (H:AHeap):ACalls Tryz.prog 271 [byteV c] H (boolV (digitB c)) H:=by
 refine acalls_walk (fun _=>.imm) [0,2] Tryz.mixed Tryz.func271 rfl rfl rfl (by decide) (fun hcl hlow=>?_)
 repeat with_reducible refine awp_assoc ?_
 refine awp_sr fun K hK=>?_
 simp
 refine hK _ _ ?_
 clear hK K
 by_cases h:(48:Int)≤c.toNat
 ·repeat with_reducible refine awp_assoc ?_
  refine awp_sr fun K hK=>?_
  simp [h]
  refine hK _ _ ?_
  clear hK K
  simp [digitB,h,reset_all hcl]
 ·repeat with_reducible refine awp_assoc ?_
  refine awp_sr fun K hK=>?_
  simp [h]
  refine hK _ _ ?_
  clear hK K
  simp [digitB,h,reset_all hcl]
theorem isLetter_c (c:UInt8) (H:AHeap):ACalls Tryz.prog 270 [byteV c] H (boolV (letterB c)) H:=by
 refine acalls_walk (fun _=>.imm) [0,2] Tryz.mixed Tryz.func270 rfl rfl rfl (by decide) (fun hcl hlow=>?_)
 repeat with_reducible refine awp_assoc ?_
 refine awp_sr fun K hK=>?_
 simp
 refine hK _ _ ?_
 clear hK K
 repeat with_reducible refine awp_assoc ?_
 refine awp_sr fun K hK=>?_
 refine aOps_split 1 fun K hK=>?_
 simp
 refine hK _ _ ?_
 clear hK K
 refine aOps_call (isSmall_c c _) (by first | rfl | simp) rfl rfl (by first | (simp;done) | rfl) ?_
 cases hb:smallB c
 ·by_cases h:(65:Int)≤c.toNat
  ·simp [h]
   refine hK _ _ ?_
   clear hK K
   simp [letterB,greatB,hb,h,reset_all hcl]
  ·simp [h]
   refine hK _ _ ?_
   clear hK K
   simp [letterB,greatB,hb,h,reset_all hcl]
 ·simp
  refine hK _ _ ?_
  clear hK K
  simp [letterB,hb,reset_all hcl]
theorem isTail_c (c:UInt8) (H:AHeap):ACalls Tryz.prog 269 [byteV c] H (boolV (tailB c)) H:=by
 refine acalls_walk (fun _=>.imm) [0,2] Tryz.mixed Tryz.func269 rfl rfl rfl (by decide) (fun hcl hlow=>?_)
 repeat with_reducible refine awp_assoc ?_
 refine awp_sr fun K hK=>?_
 simp
 refine hK _ _ ?_
 clear hK K
 repeat with_reducible refine awp_assoc ?_
 refine awp_sr fun K hK=>?_
 refine aOps_split 1 fun K hK=>?_
 simp
 refine hK _ _ ?_
 clear hK K
 refine aOps_call (isLetter_c c _) (by first | rfl | simp) rfl rfl (by first | (simp;done) | rfl) ?_
 cases hb:letterB c
 ·refine aOps_split 2 fun K hK=>?_
  simp
  refine hK _ _ ?_
  clear hK K
  refine aOps_call (isDigit_c c _) (by first | rfl | simp) rfl rfl (by first | (simp;done) | rfl) ?_
  cases hd:digitB c
  ·simp
   refine hK _ _ ?_
   clear hK K
   simp [tailB,hb,hd,reset_all hcl]
  ·simp
   refine hK _ _ ?_
   clear hK K
   simp [tailB,hb,hd,reset_all hcl]
 ·simp
  refine hK _ _ ?_
  clear hK K
  simp [tailB,hb,reset_all hcl]
def runB (s:ByteArray):Bool:=decide (1≤s.size) && decide (s.size≤16) && s.data.toList.all tailB
theorem isRun_c (s:ByteArray) (H:AHeap):ACalls Tryz.prog 265 [strV s] H (boolV (runB s)) H:=by
 refine acalls_walk (fun _=>.imm) [0,2,3,11,15,22] Tryz.mixed Tryz.func265 rfl rfl rfl (by decide) (fun hcl hlow=>?_)
 repeat with_reducible refine awp_assoc ?_
 refine awp_sr fun K hK=>?_
 simp
 refine hK _ _ ?_
 clear hK K
 by_cases h1:1≤s.size
 ·have h1':¬ (s.size:Int) < 1:=by omega
  by_cases h2:s.size≤16
  ·have h2':¬ (16:Int) < s.size:=by omega
   repeat with_reducible refine awp_assoc ?_
   refine awp_sr fun K hK=>?_
   simp [h1',h2']
   refine hK _ _ ?_
   clear hK K
   repeat with_reducible refine awp_assoc ?_
   refine awp_seq_k fun K hK=>?_
   refine awp_condF rfl (by simp) ?_
   refine awp_skip ?_
   refine hK _ _ ?_
   clear hK K
   repeat with_reducible refine awp_assoc ?_
   refine awp_sr fun K hK=>?_
   simp
   refine hK _ _ ?_
   clear hK K
   refine awp_seq_k fun K hK=>?_
   refine awp_block ?_
   refine awp_up s.size (fun k=>Env.ofL [(0,strV s),(2,boolV false),(3,intV k)]) (fun k=>HL H []) (fun k=>∀ x∈s.data.toList.take k,tailB x=true) (weak_HL hcl rfl ?_ ?_) ?_ (fun k hk hi=>?_) (fun hi=>?_)
   ·simp
   ·simp
   ·simp
   ·obtain ⟨c,hc⟩:∃ c,s.data.toList[k]?=some c:=by
     rw [ba_size] at hk
     exact ⟨_,List.getElem?_eq_getElem hk⟩
    repeat with_reducible refine awp_assoc ?_
    refine awp_sr fun K hK=>?_
    simp [hk]
    refine hK _ _ ?_
    clear hK K
    repeat with_reducible refine awp_assoc ?_
    refine awp_seq_k fun K hK=>?_
    refine awp_condT rfl (by simp) ?_
    refine awp_skip ?_
    refine hK _ _ ?_
    clear hK K
    refine awp_seq_k fun K hK=>?_
    refine awp_block ?_
    repeat with_reducible refine awp_assoc ?_
    refine awp_sr fun K hK=>?_
    refine aOps_split 3 fun K hK=>?_
    simp [hc]
    refine hK _ _ ?_
    clear hK K
    refine aOps_call (isTail_c c _) (by first | rfl | simp) rfl rfl (by first | (simp;done) | rfl) ?_
    simp
    refine hK _ _ ?_
    clear hK K
    cases ht:tailB c
    ·refine awp_condT rfl (by simp [ht]) ?_
     repeat with_reducible refine awp_assoc ?_
     refine awp_sr fun K hK=>?_
     simp
     refine hK _ _ ?_
     clear hK K
     have:runB s=false:=by
      have:s.data.toList.all tailB=false:=by
       rw [List.all_eq_false]
       exact ⟨c,List.mem_of_getElem? hc,by simp [ht]⟩
      simp [runB,this]
     simp [this,reset_all hcl]
    ·refine awp_condF rfl (by simp [ht]) ?_
     refine awp_skip ?_
     refine hK _ _ ?_
     clear hK K
     refine awp_region ?_
     simp [wrap_succ (show k < 4611686018427387904 by omega)]
     refine ⟨fun x hx=>?_,?_⟩
     ·rw [List.take_add_one] at hx
      simp [hc] at hx
      rcases hx with hx | rfl
      ·exact hi x hx
      ·exact ht
     ·refine weak_HL hcl rfl (by simp) (by simp)
   ·repeat with_reducible refine awp_assoc ?_
    refine awp_sr fun K hK=>?_
    simp
    refine hK _ _ ?_
    clear hK K
    repeat with_reducible refine awp_assoc ?_
    refine awp_seq_k fun K hK=>?_
    refine awp_condF rfl (by simp) ?_
    refine awp_exit ?_
    simp
    clear hK K
    refine hK _ _ ?_
    clear hK K
    repeat with_reducible refine awp_assoc ?_
    refine awp_sr fun K hK=>?_
    simp
    refine hK _ _ ?_
    clear hK K
    have:runB s=true:=by
     rw [List.take_of_length_le (by rw [ba_size];exact Nat.le_refl _)] at hi
     simp only [runB,h1,h2,List.all_eq_true.2 hi];rfl
    simp [this,reset_all hcl]
  ·have h2':(16:Int) < s.size:=by omega
   repeat with_reducible refine awp_assoc ?_
   refine awp_sr fun K hK=>?_
   simp [h1',h2']
   refine hK _ _ ?_
   clear hK K
   repeat with_reducible refine awp_assoc ?_
   refine awp_seq_k fun K hK=>?_
   refine awp_condT rfl (by simp) ?_
   repeat with_reducible refine awp_assoc ?_
   refine awp_sr fun K hK=>?_
   simp
   refine hK _ _ ?_
   clear hK K
   simp [runB,h2,reset_all hcl]
 ·have h1':(s.size:Int) < 1:=by omega
  repeat with_reducible refine awp_assoc ?_
  refine awp_sr fun K hK=>?_
  simp [h1']
  refine hK _ _ ?_
  clear hK K
  repeat with_reducible refine awp_assoc ?_
  refine awp_seq_k fun K hK=>?_
  refine awp_condT rfl (by simp) ?_
  repeat with_reducible refine awp_assoc ?_
  refine awp_sr fun K hK=>?_
  simp
  refine hK _ _ ?_
  clear hK K
  simp [runB,h1,reset_all hcl]
def wordsB:List ByteArray:=[⟨#[100,97,116,97]⟩,⟨#[99,108,97,115,115]⟩,⟨#[105,110,115,116,97,110,99,101]⟩,⟨#[111,112]⟩,⟨#[101,110,100]⟩,⟨#[119,104,101,114,101]⟩,⟨#[108,101,116]⟩,⟨#[105,110]⟩,⟨#[102,114,101,101]⟩,⟨#[99,97,115,101]⟩,⟨#[114,105,103,105,100]⟩,⟨#[111,102]⟩,⟨#[102,97,105,108]⟩]
def headP (p:UInt8→Bool) (s:ByteArray):Bool:=match s.data.toList[0]? with | some c=>p c | none=>false
def smallN (s:ByteArray):Bool:=runB s && headP smallB s && !wordsB.any fun w=>decide (w=s)
def greatN (s:ByteArray):Bool:=runB s && headP greatB s
def Ty.name:Ty→ByteArray | .mk n _=>n
def Ty.args:Ty→List Ty | .mk _ l=>l
def Ty.isVar (t:Ty):Bool:=headP smallB t.name
def arrowN:ByteArray:=⟨#[45,62]⟩
def Ty.node (t:Ty):Bool:=if t.name=arrowN then decide ((t.args.length:Int)=2) else if t.isVar then smallN t.name && decide ((t.args.length:Int)=0) else greatN t.name && decide ((t.args.length:Int)≤8)
theorem words_c (H:AHeap):ACalls Tryz.prog 266 [] H (.slice (wordsB.map fun w=>[strV w]) none) H:=by
 refine acalls_walk (fun _=>.imm) [0] Tryz.mixed Tryz.func266 rfl rfl rfl (by decide) (fun hcl hlow=>?_)
 repeat with_reducible refine awp_assoc ?_
 refine awp_sr fun K hK=>?_
 simp
 refine hK _ _ ?_
 clear hK K
 repeat with_reducible refine awp_assoc ?_
 refine awp_sr fun K hK=>?_
 simp
 refine hK _ _ ?_
 clear hK K
 simp [reset_all hcl,wordsB]
theorem runB_size {s:ByteArray} (h:runB s=true):1≤s.size:=by
 simp [runB] at h;omega
theorem head_of {s:ByteArray} (h:1≤s.size):∃ c,s.data.toList[0]?=some c:=⟨_,List.getElem?_eq_getElem (by rw [ba_size] at h;exact h)⟩
theorem isSmallN_c (s:ByteArray) (H:AHeap):ACalls Tryz.prog 255 [strV s] H (boolV (smallN s)) H:=by
 refine acalls_walk (fun _=>.imm) [0,2,4,13,14,15,16,17,22] Tryz.mixed Tryz.func255 rfl rfl rfl (by decide) (fun hcl hlow=>?_)
 repeat with_reducible refine awp_assoc ?_
 refine awp_sr fun K hK=>?_
 simp
 refine hK _ _ ?_
 clear hK K
 repeat with_reducible refine awp_assoc ?_
 refine awp_sr fun K hK=>?_
 refine aOps_split 1 fun K hK=>?_
 simp
 refine hK _ _ ?_
 clear hK K
 refine aOps_call (isRun_c s _) (by first | rfl | simp) rfl rfl (by first | (simp;done) | rfl) ?_
 cases hr:runB s
 ·simp
  refine hK _ _ ?_
  clear hK K
  repeat with_reducible refine awp_assoc ?_
  refine awp_seq_k fun K hK=>?_
  refine awp_condT rfl (by simp) ?_
  repeat with_reducible refine awp_assoc ?_
  refine awp_sr fun K hK=>?_
  simp
  refine hK _ _ ?_
  clear hK K
  simp [smallN,hr,reset_all hcl]
 obtain ⟨c,hc⟩:=head_of (runB_size hr)
 refine aOps_split 4 fun K hK=>?_
 simp [hc]
 refine hK _ _ ?_
 clear hK K
 refine aOps_call (isSmall_c c _) (by first | rfl | simp) rfl rfl (by first | (simp;done) | rfl) ?_
 cases hs:smallB c
 ·simp
  refine hK _ _ ?_
  clear hK K
  repeat with_reducible refine awp_assoc ?_
  refine awp_seq_k fun K hK=>?_
  refine awp_condT rfl (by simp) ?_
  repeat with_reducible refine awp_assoc ?_
  refine awp_sr fun K hK=>?_
  simp
  refine hK _ _ ?_
  clear hK K
  simp [smallN,hr,headP,hc,hs,reset_all hcl]
 simp
 refine hK _ _ ?_
 clear hK K
 repeat with_reducible refine awp_assoc ?_
 refine awp_seq_k fun K hK=>?_
 refine awp_condF rfl (by simp) ?_
 refine awp_skip ?_
 refine hK _ _ ?_
 clear hK K
 repeat with_reducible refine awp_assoc ?_
 refine awp_sr fun K hK=>?_
 refine aOps_call (words_c _) (by first | rfl | simp) rfl rfl (by first | (simp;done) | rfl) ?_
 simp
 refine hK _ _ ?_
 clear hK K
 refine awp_seq_k fun K hK=>?_
 refine awp_block ?_
 refine awp_up wordsB.length (fun k=>Env.ofL [(0,strV s),(2,boolV false),(14,.slice (wordsB.map fun w=>[strV w]) none),(15,intV wordsB.length),(16,intV k)]) (fun k=>HL H []) (fun k=>∀ x∈wordsB.take k,¬ x=s) (weak_HL hcl rfl ?_ ?_) ?_ (fun k hk hi=>?_) (fun hi=>?_)
 ·simp
 ·simp
 ·simp
 ·obtain ⟨w,hw⟩:∃ w,wordsB[k]?=some w:=⟨_,List.getElem?_eq_getElem hk⟩
  repeat with_reducible refine awp_assoc ?_
  refine awp_sr fun K hK=>?_
  simp [hk]
  refine hK _ _ ?_
  clear hK K
  repeat with_reducible refine awp_assoc ?_
  refine awp_seq_k fun K hK=>?_
  refine awp_condT rfl (by simp) ?_
  refine awp_skip ?_
  refine hK _ _ ?_
  clear hK K
  refine awp_seq_k fun K hK=>?_
  refine awp_block ?_
  repeat with_reducible refine awp_assoc ?_
  refine awp_sr fun K hK=>?_
  simp [hw]
  refine hK _ _ ?_
  clear hK K
  repeat with_reducible refine awp_assoc ?_
  refine awp_sr fun K hK=>?_
  simp
  refine hK _ _ ?_
  clear hK K
  by_cases he:w=s
  ·refine awp_condT rfl (by simp [he]) ?_
   repeat with_reducible refine awp_assoc ?_
   refine awp_sr fun K hK=>?_
   simp
   refine hK _ _ ?_
   clear hK K
   have:smallN s=false:=by
    have:wordsB.any (fun w=>decide (w=s))=true:=List.any_eq_true.2 ⟨w,List.mem_of_getElem? hw,by simp [he]⟩
    simp [smallN,this]
   simp [this,reset_all hcl]
  ·refine awp_condF rfl (by simp [he]) ?_
   refine awp_skip ?_
   refine hK _ _ ?_
   clear hK K
   refine awp_region ?_
   simp [wrap_succ (show k < 4611686018427387904 by simp [wordsB] at hk;omega)]
   refine ⟨fun x hx=>?_,?_⟩
   ·rw [List.take_add_one] at hx
    simp [hw] at hx
    rcases hx with hx | rfl
    ·exact hi x hx
    ·exact he
   ·refine weak_HL hcl rfl (by simp) (by simp)
 ·repeat with_reducible refine awp_assoc ?_
  refine awp_sr fun K hK=>?_
  simp
  refine hK _ _ ?_
  clear hK K
  repeat with_reducible refine awp_assoc ?_
  refine awp_seq_k fun K hK=>?_
  refine awp_condF rfl (by simp) ?_
  refine awp_exit ?_
  simp
  clear hK K
  refine hK _ _ ?_
  clear hK K
  repeat with_reducible refine awp_assoc ?_
  refine awp_sr fun K hK=>?_
  simp
  refine hK _ _ ?_
  clear hK K
  have:smallN s=true:=by
   have:wordsB.any (fun w=>decide (w=s))=false:=by
    rw [List.any_eq_false]
    exact fun x hx=>by simpa using hi x hx
   simp [smallN,hr,headP,hc,hs,this]
  simp [this,reset_all hcl]
theorem isGreatN_c (s:ByteArray) (H:AHeap):ACalls Tryz.prog 256 [strV s] H (boolV (greatN s)) H:=by
 refine acalls_walk (fun _=>.imm) [0,2] Tryz.mixed Tryz.func256 rfl rfl rfl (by decide) (fun hcl hlow=>?_)
 repeat with_reducible refine awp_assoc ?_
 refine awp_sr fun K hK=>?_
 simp
 refine hK _ _ ?_
 clear hK K
 repeat with_reducible refine awp_assoc ?_
 refine awp_sr fun K hK=>?_
 refine aOps_split 1 fun K hK=>?_
 simp
 refine hK _ _ ?_
 clear hK K
 refine aOps_call (isRun_c s _) (by first | rfl | simp) rfl rfl (by first | (simp;done) | rfl) ?_
 cases hr:runB s
 ·simp
  refine hK _ _ ?_
  clear hK K
  simp [greatN,hr,reset_all hcl]
 obtain ⟨c,hc⟩:=head_of (runB_size hr)
 by_cases h:(65:Int)≤c.toNat
 ·simp [hc,h]
  refine hK _ _ ?_
  clear hK K
  simp [greatN,hr,headP,hc,greatB,h,reset_all hcl]
 ·simp [hc,h]
  refine hK _ _ ?_
  clear hK K
  simp [greatN,hr,headP,hc,greatB,h,reset_all hcl]
theorem isVar_c (t:Ty) (H:AHeap):ACalls Tryz.prog 254 [t.enc] H (boolV t.isVar) H:=by
 obtain ⟨n,l⟩:=t
 refine acalls_walk (fun _=>.imm) [0,1,2] Tryz.mixed Tryz.func254 rfl rfl rfl (by decide) (fun hcl hlow=>?_)
 simp only [Ty.enc,Ty.cells]
 repeat with_reducible refine awp_assoc ?_
 refine awp_sr fun K hK=>?_
 simp
 refine hK _ _ ?_
 clear hK K
 by_cases h:0 < n.size
 ·obtain ⟨c,hc⟩:=head_of h
  have h':(0:Int) < n.size:=by omega
  repeat with_reducible refine awp_assoc ?_
  refine awp_sr fun K hK=>?_
  refine aOps_split 7 fun K hK=>?_
  simp [h,h']
  refine hK _ _ ?_
  clear hK K
  refine aOps_split 1 fun K hK=>?_
  simp [hc]
  refine hK _ _ ?_
  clear hK K
  refine aOps_call (isSmall_c c _) (by first | rfl | simp) rfl rfl (by first | (simp;done) | rfl) ?_
  simp
  refine hK _ _ ?_
  clear hK K
  simp [Ty.isVar,Ty.name,headP,hc,reset_all hcl]
 ·have h':n.size=0:=by omega
  repeat with_reducible refine awp_assoc ?_
  refine awp_sr fun K hK=>?_
  simp [h']
  refine hK _ _ ?_
  clear hK K
  have:n.data.toList[0]?=none:=by rw [List.getElem?_eq_none];rw [ba_size] at h';omega
  have hv:(Ty.mk n l).isVar=false:=by unfold Ty.isVar headP;rw [show (Ty.mk n l).name=n from rfl,this]
  simp [hv,reset_all hcl]
theorem isNode_c (t:Ty) (H:AHeap):ACalls Tryz.prog 222 [t.enc] H (boolV t.node) H:=by
 obtain ⟨n,l⟩:=t
 refine acalls_walk (fun _=>.imm) [0,1,2,3,11] Tryz.mixed Tryz.func222 rfl rfl rfl (by decide) (fun hcl hlow=>?_)
 simp only [Ty.enc,Ty.cells]
 repeat with_reducible refine awp_assoc ?_
 refine awp_sr fun K hK=>?_
 simp
 refine hK _ _ ?_
 clear hK K
 refine awp_seq_k fun K hK=>?_
 refine awp_block ?_
 by_cases ha:n=arrowN
 ·repeat with_reducible refine awp_assoc ?_
  refine awp_sr fun K hK=>?_
  simp
  refine hK _ _ ?_
  clear hK K
  refine awp_condT rfl (by simp [ha,arrowN]) ?_
  repeat with_reducible refine awp_assoc ?_
  refine awp_sr fun K hK=>?_
  simp
  refine hK _ _ ?_
  clear hK K
  have e:(Ty.mk n l).node=decide ((l.length:Int)=2):=by unfold Ty.node;rw [if_pos (show (Ty.mk n l).name=arrowN from ha)];rfl
  simp [e,reset_all hcl]
 ·have ha':¬ n=⟨#[45,62]⟩:=ha
  repeat with_reducible refine awp_assoc ?_
  refine awp_sr fun K hK=>?_
  simp
  refine hK _ _ ?_
  clear hK K
  refine awp_condF rfl (by simp [ha']) ?_
  repeat with_reducible refine awp_assoc ?_
  refine awp_sr fun K hK=>?_
  refine aOps_split 1 fun K hK=>?_
  simp
  refine hK _ _ ?_
  clear hK K
  have hc:=isVar_c (.mk n l)
  simp only [Ty.enc,Ty.cells,cellsL_eq] at hc
  refine aOps_call (hc _) (by first | rfl | simp) rfl rfl rfl ?_
  clear hc
  simp
  refine hK _ _ ?_
  clear hK K
  cases hv:(Ty.mk n l).isVar
  ·refine awp_condF rfl (by simp [hv]) ?_
   refine awp_skip ?_
   refine hK _ _ ?_
   clear hK K
   repeat with_reducible refine awp_assoc ?_
   refine awp_sr fun K hK=>?_
   refine aOps_split 2 fun K hK=>?_
   simp
   refine hK _ _ ?_
   clear hK K
   refine aOps_call (isGreatN_c n _) (by first | rfl | simp) rfl rfl (by first | (simp;done) | rfl) ?_
   have e:(Ty.mk n l).node=(greatN n && decide ((l.length:Int)≤8)):=by unfold Ty.node;rw [if_neg (show ¬ (Ty.mk n l).name=arrowN from ha),hv];rfl
   cases hg:greatN n
   ·simp
    refine hK _ _ ?_
    clear hK K
    simp [e,hg,reset_all hcl]
   ·simp
    refine hK _ _ ?_
    clear hK K
    simp [e,hg,reset_all hcl]
  ·refine awp_condT rfl (by simp [hv]) ?_
   repeat with_reducible refine awp_assoc ?_
   refine awp_sr fun K hK=>?_
   refine aOps_split 2 fun K hK=>?_
   simp
   refine hK _ _ ?_
   clear hK K
   refine aOps_call (isSmallN_c n _) (by first | rfl | simp) rfl rfl (by first | (simp;done) | rfl) ?_
   have e:(Ty.mk n l).node=(smallN n && decide ((l.length:Int)=0)):=by unfold Ty.node;rw [if_neg (show ¬ (Ty.mk n l).name=arrowN from ha),hv];rfl
   cases hg:smallN n
   ·simp
    refine hK _ _ ?_
    clear hK K
    simp [e,hg,reset_all hcl]
   ·simp
    refine hK _ _ ?_
    clear hK K
    simp [e,hg,reset_all hcl]
section
variable {σ:Type} {g:FuncId} {caps:List AV} {B:σ→List (Nat × ABlock)} {ids:List Nat} {f:σ→Ty→σ} {I:σ→Nat→Prop} {n0:Nat}
theorem fold_I (hI:∀ s m t,I s (m+1)→I (f s t) m):∀ (L:List Ty) (s:σ) (m:Nat),I s (L.length+m)→I (L.foldl f s) m
 | [],s,m,h=>by simpa using h
 | t::L,s,m,h=>by
  simp only [List.foldl_cons]
  exact fold_I hI L _ m (hI _ _ _ (by rw [List.length_cons,Nat.add_right_comm] at h;exact h))
set_option maxRecDepth 10000 in
theorem each_c (hB:∀ s,(B s).map (·.1)=ids) (hids:ids.Nodup) (hlo:∀ s,∀ p∈B s,p.1 < n0∧p.2.low n0) (hcaps:lowL n0 caps) (hI:∀ s m t,I s (m+1)→I (f s t) m)
  (hg:∀ t s m H,I s (m+1)→n0≤H.next→Holds H (B s)→ACalls Tryz.prog g (t.enc::caps) H (.tuple []) (puts H (B (f s t)))) :
  ∀ (t:Ty) (s:σ) (m:Nat) (H:AHeap),t.cnt < 4611686018427387904→I s (t.cnt+m)→n0≤H.next→Holds H (B s)→ACalls Tryz.prog 220 [t.enc,.fn g caps] H (.tuple []) (puts H (B (t.nodes.foldl f s))):=by
 intro t
 induction t using Ty.ind with
 | h n l ih =>
 intro s m H hsz hi hn hH
 have hlow':∀ s,∀ p∈B s,p.1 < H.next∧p.2.low H.next:=fun s p hp=>⟨by have:=(hlo s p hp).1;omega,p.2.low_mono hn (hlo s p hp).2⟩
 have hlt:∀ s,∀ p∈B s,p.1 < H.next:=fun s p hp=>(hlow' s p hp).1
 have hcaps':∀ i,lowL (nid H.next i) caps:=fun i=>lowL_mono le_nid caps (lowL_mono hn caps hcaps)
 have hnd:∀ s,((B s).map (·.1)).Nodup:=fun s=>by rw [hB];exact hids
 have hpp:∀ s s',puts (puts H (B s)) (B s')=puts H (B s'):=fun s s'=>puts_puts (by rw [hB,hB]) (hnd s)
 have hcnt:(Ty.mk n l).cnt=(nodesL l).length+1:=by simp [Ty.cnt,Ty.nodes]
 have hll:=nodesL_len l
 refine acalls_walk (fun _=>.imm) [0,1,2,5,10,11,12,13] Tryz.mixed Tryz.func220 rfl rfl rfl (by decide) (fun hcl hlow=>?_)
 simp only [Ty.enc,Ty.cells]
 have hcl':∀ s,(puts H (B s)).Closed:=fun s=>closed_puts hcl (hlow' s)
 repeat with_reducible refine awp_assoc ?_
 refine awp_sr fun K hK=>?_
 simp
 refine hK _ _ ?_
 clear hK K
 repeat with_reducible refine awp_assoc ?_
 refine awp_sr fun K hK=>?_
 refine aOps_split 2 fun K hK=>?_
 simp
 refine hK _ _ ?_
 clear hK K
 have hc:=hg (.mk n l) s ((nodesL l).length+m) (HL H [.cells [.v (.string n),.slice (l.map Ty.cells) none]]) (by rw [hcnt] at hi;rw [Nat.add_right_comm];exact hi) (by simp [nid];omega) ((holds_HL (hlt s)).2 hH)
 rw [puts_HL (hlt _)] at hc
 simp only [Ty.enc,Ty.cells,cellsL_eq] at hc
 refine aOps_call hc (by first | rfl | simp) rfl rfl rfl ?_
 clear hc
 simp
 refine hK _ _ ?_
 clear hK K
 have hnx:(puts H (B (f s (.mk n l)))).next=H.next:=puts_next _ _
 repeat with_reducible refine awp_assoc ?_
 refine awp_sr fun K hK=>?_
 simp
 refine hK _ _ ?_
 clear hK K
 generalize hs1:f s (.mk n l)=s1 at *
 have hi1:I s1 ((nodesL l).length+m):=by
  rw [←hs1];exact hI _ _ _ (by rw [hcnt] at hi;rw [Nat.add_right_comm];exact hi)
 refine awp_block ?_
 refine awp_up l.length (fun k=>Env.ofL [(1,.fn g caps),(10,.slice (l.map Ty.cells) none),(11,intV l.length),(12,intV k)])
  (fun k=>HL (puts H (B ((nodesL (l.take k)).foldl f s1))) []) (fun k=>True) (weak_HL (hcl' _) (by simp) ?_ ?_) trivial (fun k hk _=>?_) (fun _=>?_)
 ·simp [nodesL]
 ·simp [hcaps']
 ·obtain ⟨x,hx⟩:∃ x,l[k]?=some x:=⟨_,List.getElem?_eq_getElem hk⟩
  repeat with_reducible refine awp_assoc ?_
  refine awp_sr fun K hK=>?_
  simp [hk]
  refine hK _ _ ?_
  clear hK K
  repeat with_reducible refine awp_assoc ?_
  refine awp_seq_k fun K hK=>?_
  refine awp_condT rfl (by simp) ?_
  refine awp_skip ?_
  refine hK _ _ ?_
  clear hK K
  refine awp_seq_k fun K hK=>?_
  refine awp_block ?_
  obtain ⟨n',l'⟩:=x
  repeat with_reducible refine awp_assoc ?_
  refine awp_sr fun K hK=>?_
  simp [hx,Ty.cells]
  refine hK _ _ ?_
  clear hK K
  have e1:(nodesL (l.take (k+1))).foldl f s1=(Ty.mk n' l').nodes.foldl f ((nodesL (l.take k)).foldl f s1):=by
   rw [nodesL_take hx,List.foldl_append]
  generalize hsk:(nodesL (l.take k)).foldl f s1=sk at e1 ⊢
  have hlen:(nodesL (l.take k)).length+(Ty.mk n' l').cnt≤(nodesL l).length:=by
   have h1:=congrArg List.length (nodesL_take hx)
   have h2:nodesL l=nodesL (l.take (k+1))++nodesL (l.drop (k+1)):=by rw [←nodesL_append,List.take_append_drop]
   rw [h2,List.length_append,h1,List.length_append];simp [Ty.cnt]
  have hc:=ih _ (List.mem_of_getElem? hx) sk ((nodesL l).length - (nodesL (l.take k)).length - (Ty.mk n' l').cnt+m) (HL (puts H (B sk)) [.cells [.v (.string n'),.slice (l'.map Ty.cells) none]])
   (by omega) (by rw [←hsk];exact fold_I hI _ _ _ (by rw [show (nodesL (l.take k)).length+((Ty.mk n' l').cnt+((nodesL l).length - (nodesL (l.take k)).length - (Ty.mk n' l').cnt+m))=(nodesL l).length+m by omega];exact hi1)) (by simp [nid];omega)
   ((holds_HL (by simpa using hlt sk)).2 (puts_holds _ (hnd _)))
  rw [puts_HL (by simpa using hlt _),hpp] at hc
  simp only [Ty.enc,Ty.cells,cellsL_eq] at hc
  refine awp_region ?_
  refine aOps_split 2 fun K hK=>?_
  simp
  refine hK _ _ ?_
  clear hK K
  refine aOps_call hc (by first | rfl | simp) rfl rfl rfl ?_
  simp
  refine hK _ _ ?_
  clear hK K
  refine awp_region ?_
  simp [wrap_succ (show k < 4611686018427387904 by omega)]
  rw [e1]
  exact weak_HL (hcl' _) (by simp) (by simp) (by simp [hcaps'])
 ·repeat with_reducible refine awp_assoc ?_
  refine awp_sr fun K hK=>?_
  simp
  refine hK _ _ ?_
  clear hK K
  repeat with_reducible refine awp_assoc ?_
  refine awp_seq_k fun K hK=>?_
  refine awp_condF rfl (by simp) ?_
  refine awp_exit ?_
  simp
  clear hK K
  rw [Ty.nodes,List.foldl_cons,hs1]
  exact reset_all (hcl' _)
end
theorem validate1_c (t:Ty) (b:Bool) (i:Nat) (H:AHeap) (hH:H.get i=some (.cells [boolV b])) :
  ACalls Tryz.prog 221 [t.enc,.ref i 0] H (.tuple []) (H.upd i (.cells [boolV (b && t.node)])):=by
 obtain ⟨n,l⟩:=t
 refine acalls_walk (fun _=>.imm) [0,1,2] Tryz.mixed Tryz.func221 rfl rfl rfl (by decide) (fun hcl hlow=>?_)
 simp only [Ty.enc,Ty.cells]
 have hi:i < H.next:=(hcl _ _ hH).1
 have hg:∀ bs,(HL H bs).get i=some (.cells [boolV b]):=fun bs=>by rw [get_lt hi];exact hH
 repeat with_reducible refine awp_assoc ?_
 refine awp_sr fun K hK=>?_
 simp
 refine hK _ _ ?_
 clear hK K
 cases b
 ·refine awp_region ?_
  simp [hg,upd_lt hi]
  exact reset_all (closed_upd hcl hi (by simp))
 ·refine awp_region ?_
  refine aOps_split 3 fun K hK=>?_
  simp [hg]
  refine hK _ _ ?_
  clear hK K
  have hc:=isNode_c (.mk n l)
  simp only [Ty.enc,Ty.cells,cellsL_eq] at hc
  refine aOps_call (hc _) (by first | rfl | simp) rfl rfl rfl ?_
  clear hc
  simp [hg,upd_lt hi]
  exact reset_all (closed_upd hcl hi (by simp))
mutual
def big:Ty→Nat→Nat→Bool × Nat
 | .mk _ l,room,n=>if 200 < n+1∨room < 1 then (true,n+1) else bigL l (room - 1) (n+1)
def bigL:List Ty→Nat→Nat→Bool × Nat
 | [],_,n=>(false,n)
 | t::ts,room,n=>if (big t room n).1 then (true,(big t room n).2) else bigL ts room (big t room n).2
end
def Ty.large (t:Ty):Bool:=(big t 40 0).1
theorem bigL_append (a b:List Ty) (room n:Nat):bigL (a++b) room n=if (bigL a room n).1 then (true,(bigL a room n).2) else bigL b room (bigL a room n).2:=by
 induction a generalizing n with
 | nil=>simp [bigL]
 | cons t ts ih =>
  simp only [List.cons_append,bigL]
  by_cases h:(big t room n).1=true
  ·simp [h]
  ·simp [h,ih]
theorem bigL_take {l:List Ty} {k:Nat} {t:Ty} (h:l[k]?=some t) (room n:Nat) (h0:(bigL (l.take k) room n).1=false) :
  bigL (l.take (k+1)) room n=big t room (bigL (l.take k) room n).2:=by
 rw [List.take_add_one,bigL_append,h,h0]
 simp only [Option.toList,bigL,Bool.false_eq_true,if_false]
 generalize big t room (bigL (l.take k) room n).2=r
 obtain ⟨c,d⟩:=r
 cases c <;> simp
theorem bigL_true {l:List Ty} {k:Nat} (room n:Nat) (h0:(bigL (l.take k) room n).1=true):bigL l room n=bigL (l.take k) room n:=by
 rw [←List.take_append_drop k l,bigL_append]
 simp only [List.take_append_drop,h0,if_true]
 rw [←h0]
mutual
theorem big_le:∀ (t:Ty) (room n:Nat),n≤200→(big t room n).2≤201∧n < (big t room n).2∧((big t room n).1=false→(big t room n).2≤200)
 | .mk _ l,room,n,hn=>by
  rw [big]
  split
  ·simp;omega
  ·have h:=bigL_le l (room - 1) (n+1) (by omega)
   exact ⟨h.1,by omega,fun e=>(h.2.2 e).1⟩
theorem bigL_le:∀ (l:List Ty) (room n:Nat),n≤200→(bigL l room n).2≤201∧n≤(bigL l room n).2∧((bigL l room n).1=false→(bigL l room n).2≤200∧n+l.length≤(bigL l room n).2)
 | [],room,n,hn=>by simp [bigL];omega
 | t::ts,room,n,hn=>by
  have h1:=big_le t room n hn
  rw [bigL]
  split
  ·simp;omega
  ·rename_i h
   have h2:=bigL_le ts room (big t room n).2 (h1.2.2 (by simpa using h))
   simp only [List.length_cons]
   exact ⟨h2.1,by omega,fun e=>⟨(h2.2.2 e).1,by have:=(h2.2.2 e).2;omega⟩⟩
end
set_option maxRecDepth 10000 in
theorem large1_c:∀ (t:Ty) (room n:Nat) (H:AHeap) (i j:Nat),room≤40→n≤200→H.get i=some (.cells [intV n])→H.get j=some (.cells [.fn 253 [.ref i 0,.ref j 0]]) →
  ACalls Tryz.prog 253 [t.enc,intV room,.ref i 0,.ref j 0] H (boolV (big t room n).1) (H.upd i (.cells [intV (big t room n).2])):=by
 intro t
 induction t using Ty.ind with
 | h nm l ih =>
 intro room n H i j hroom hn hi hj
 refine acalls_walk (fun _=>.imm) [0,1,2,3,4,6,8,16,18,19,20,21,28] Tryz.mixed Tryz.func253 rfl rfl rfl (by decide) (fun hcl hlow=>?_)
 simp only [Ty.enc,Ty.cells]
 have hil:i < H.next:=(hcl _ _ hi).1
 have hjl:j < H.next:=(hcl _ _ hj).1
 have hij:j≠i:=by rintro rfl;rw [hi] at hj;simp at hj
 have gi:∀ bs,(HL H bs).get i=some (.cells [intV n]):=fun bs=>by rw [get_lt hil];exact hi
 have w1:IntKind.i64.wrap ((n:Int)+1)=((n+1:Nat):Int):=wrap_succ (by omega)
 repeat with_reducible refine awp_assoc ?_
 refine awp_sr fun K hK=>?_
 simp
 refine hK _ _ ?_
 clear hK K
 repeat with_reducible refine awp_assoc ?_
 refine awp_sr fun K hK=>?_
 simp [gi,w1,upd_lt hil]
 refine hK _ _ ?_
 clear hK K
 have gi':∀ m bs,(HL (H.upd i (.cells [intV m])) bs).get i=some (.cells [intV m]):=fun m bs=>by rw [get_lt (by exact hil)];exact get_upd_self
 have gj':∀ m bs,(HL (H.upd i (.cells [intV m])) bs).get j=some (.cells [.fn 253 [.ref i 0,.ref j 0]]):=fun m bs=>by rw [get_lt (by exact hjl),get_upd_ne hij];exact hj
 have hclu:∀ m:Int,(H.upd i (.cells [intV m])).Closed:=fun m=>closed_upd hcl hil (by simp)
 by_cases h1:200 < n+1
 ·have h1':(200:Int) < n+1:=by omega
  have e:big (.mk nm l) room n=(true,n+1):=by rw [big,if_pos (.inl h1)]
  repeat with_reducible refine awp_assoc ?_
  refine awp_sr fun K hK=>?_
  simp [gi',h1']
  refine hK _ _ ?_
  clear hK K
  repeat with_reducible refine awp_assoc ?_
  refine awp_seq_k fun K hK=>?_
  refine awp_condT rfl (by simp) ?_
  repeat with_reducible refine awp_assoc ?_
  refine awp_sr fun K hK=>?_
  simp
  refine hK _ _ ?_
  clear hK K
  simp [e,reset_all (hclu _)]
 have h1':¬ (200:Int) < n+1:=by omega
 by_cases h2:room < 1
 ·have h2':(room:Int) < 1:=by omega
  have e:big (.mk nm l) room n=(true,n+1):=by rw [big,if_pos (.inr h2)]
  repeat with_reducible refine awp_assoc ?_
  refine awp_sr fun K hK=>?_
  simp [gi',h1',h2']
  refine hK _ _ ?_
  clear hK K
  repeat with_reducible refine awp_assoc ?_
  refine awp_seq_k fun K hK=>?_
  refine awp_condT rfl (by simp) ?_
  repeat with_reducible refine awp_assoc ?_
  refine awp_sr fun K hK=>?_
  simp
  refine hK _ _ ?_
  clear hK K
  simp [e,reset_all (hclu _)]
 have h2':¬ (room:Int) < 1:=by omega
 have e:big (.mk nm l) room n=bigL l (room - 1) (n+1):=by rw [big,if_neg (by omega)]
 repeat with_reducible refine awp_assoc ?_
 refine awp_sr fun K hK=>?_
 simp [gi',h1',h2']
 refine hK _ _ ?_
 clear hK K
 repeat with_reducible refine awp_assoc ?_
 refine awp_seq_k fun K hK=>?_
 refine awp_condF rfl (by simp) ?_
 refine awp_skip ?_
 refine hK _ _ ?_
 clear hK K
 repeat with_reducible refine awp_assoc ?_
 refine awp_sr fun K hK=>?_
 simp
 refine hK _ _ ?_
 clear hK K
 have hb0:=bigL_le l (room - 1) (n+1) (by omega)
 refine awp_seq_k fun K hK=>?_
 refine awp_block ?_
 refine awp_up l.length (fun k=>Env.ofL [(1,intV room),(2,.ref i 0),(3,.ref j 0),(6,boolV false),(18,.slice (l.map Ty.cells) none),(19,intV l.length),(20,intV k)])
  (fun k=>HL (H.upd i (.cells [intV (bigL (l.take k) (room - 1) (n+1)).2])) []) (fun k=>(bigL (l.take k) (room - 1) (n+1)).1=false) (weak_HL (hclu _) rfl ?_ ?_) (by simp [bigL]) (fun k hk hi=>?_) (fun hi=>?_)
 ·simp [bigL]
 ·simp [lt_nid hil,lt_nid hjl]
 ·obtain ⟨x,hx⟩:∃ x,l[k]?=some x:=⟨_,List.getElem?_eq_getElem hk⟩
  have hbk:=bigL_le (l.take k) (room - 1) (n+1) (by omega)
  have hkl:(l.take k).length=k:=by simp;omega
  have hmk:=hbk.2.2 hi
  rw [hkl] at hmk
  have e1:=bigL_take hx (room - 1) (n+1) hi
  generalize hm:(bigL (l.take k) (room - 1) (n+1)).2=m at *
  repeat with_reducible refine awp_assoc ?_
  refine awp_sr fun K hK=>?_
  simp [hk]
  refine hK _ _ ?_
  clear hK K
  repeat with_reducible refine awp_assoc ?_
  refine awp_seq_k fun K hK=>?_
  refine awp_condT rfl (by simp) ?_
  refine awp_skip ?_
  refine hK _ _ ?_
  clear hK K
  refine awp_seq_k fun K hK=>?_
  refine awp_block ?_
  obtain ⟨n',l'⟩:=x
  repeat with_reducible refine awp_assoc ?_
  refine awp_sr fun K hK=>?_
  simp [hx,Ty.cells]
  refine hK _ _ ?_
  clear hK K
  have hc:=ih _ (List.mem_of_getElem? hx) (room - 1) m (HL (H.upd i (.cells [intV m])) [.cells [.v (.string n'),.slice (l'.map Ty.cells) none]]) i j (by omega) hmk.1 (gi' _ _) (gj' _ _)
  rw [upd_lt (by exact hil),upd_upd] at hc
  simp only [Ty.enc,Ty.cells,cellsL_eq] at hc
  have w2:IntKind.i64.wrap ((room:Int) - 1)=((room - 1:Nat):Int):=by rw [wrap64 (by omega) (by omega)];omega
  repeat with_reducible refine awp_assoc ?_
  refine awp_sr fun K hK=>?_
  refine aOps_split 4 fun K hK=>?_
  simp [gj',w2]
  refine hK _ _ ?_
  clear hK K
  refine aOps_call hc (by first | rfl | simp) rfl rfl rfl ?_
  simp
  refine hK _ _ ?_
  clear hK K
  cases hb:(big (.mk n' l') (room - 1) m).1
  ·refine awp_condF rfl (by simp [hb]) ?_
   refine awp_skip ?_
   refine hK _ _ ?_
   clear hK K
   refine awp_region ?_
   simp [wrap_succ (show k < 4611686018427387904 by omega)]
   rw [e1,hb]
   exact ⟨rfl,weak_HL (hclu _) rfl (by simp) (by simp [lt_nid hil,lt_nid hjl])⟩
  ·refine awp_condT rfl (by simp [hb]) ?_
   repeat with_reducible refine awp_assoc ?_
   refine awp_sr fun K hK=>?_
   simp
   refine hK _ _ ?_
   clear hK K
   have e2:bigL l (room - 1) (n+1)=big (.mk n' l') (room - 1) m:=by rw [←e1];exact bigL_true _ _ (by rw [e1];exact hb)
   rw [e,e2,hb]
   simp [reset_all (hclu _)]
 ·repeat with_reducible refine awp_assoc ?_
  refine awp_sr fun K hK=>?_
  simp
  refine hK _ _ ?_
  clear hK K
  repeat with_reducible refine awp_assoc ?_
  refine awp_seq_k fun K hK=>?_
  refine awp_condF rfl (by simp) ?_
  refine awp_exit ?_
  simp
  clear hK K
  refine hK _ _ ?_
  clear hK K
  rw [List.take_length] at hi
  repeat with_reducible refine awp_assoc ?_
  refine awp_sr fun K hK=>?_
  simp
  refine hK _ _ ?_
  clear hK K
  rw [e,hi]
  simp [reset_all (hclu _)]
theorem isLarge_c (t:Ty) (H:AHeap):ACalls Tryz.prog 219 [t.enc] H (boolV t.large) H:=by
 obtain ⟨nm,l⟩:=t
 refine acalls_walk (fun _=>.imm) [0,1,2,3,4] Tryz.mixed Tryz.func219 rfl rfl rfl (by decide) (fun hcl hlow=>?_)
 simp only [Ty.enc,Ty.cells]
 repeat with_reducible refine awp_assoc ?_
 refine awp_sr fun K hK=>?_
 simp
 refine hK _ _ ?_
 clear hK K
 repeat with_reducible refine awp_assoc ?_
 refine awp_sr fun K hK=>?_
 simp
 refine hK _ _ ?_
 clear hK K
 repeat with_reducible refine awp_assoc ?_
 refine awp_sr fun K hK=>?_
 simp
 refine hK _ _ ?_
 clear hK K
 repeat with_reducible refine awp_assoc ?_
 refine awp_sr fun K hK=>?_
 simp
 refine hK _ _ ?_
 clear hK K
 repeat with_reducible refine awp_assoc ?_
 refine awp_sr fun K hK=>?_
 refine aOps_split 2 fun K hK=>?_
 simp
 refine hK _ _ ?_
 clear hK K
 have hc:=large1_c (.mk nm l) 40 0 (HL H [.cells [.v (.string nm),.slice (l.map Ty.cells) none],.cells [intV 0],.cells [.fn 253 [.ref (nid H.next 1) 0,.ref (nid H.next 2) 0]]]) (nid H.next 1) (nid H.next 2) (by omega) (by omega)
  (by rw [get_nid rfl];rfl) (by rw [get_nid rfl];rfl)
 rw [upd_nid rfl (by simp)] at hc
 simp only [Ty.enc,Ty.cells,cellsL_eq] at hc
 refine aOps_call hc (by first | rfl | simp) rfl rfl rfl ?_
 simp
 refine hK _ _ ?_
 clear hK K
 simp [Ty.large,reset_all hcl]
def Ty.good (t:Ty):Bool:=t.nodes.all Ty.node
def Ty.valid (t:Ty):Int:=if t.large then 3 else if t.good then 0 else 1
mutual
theorem big_cnt:∀ (t:Ty) (room n:Nat),(big t room n).1=false→(big t room n).2=n+t.cnt
 | .mk nm l,room,n,h=>by
  rw [big] at h ⊢
  split at h
  ·cases h
  ·rename_i hc
   rw [if_neg hc,bigL_cnt l _ _ h]
   simp [Ty.cnt,Ty.nodes];omega
theorem bigL_cnt:∀ (l:List Ty) (room n:Nat),(bigL l room n).1=false→(bigL l room n).2=n+(nodesL l).length
 | [],room,n,_=>by simp [bigL,nodesL]
 | t::ts,room,n,h=>by
  rw [bigL] at h ⊢
  split at h
  ·cases h
  ·rename_i hc
   have hc':(big t room n).1=false:=by simpa using hc
   rw [if_neg hc,bigL_cnt ts _ _ h,big_cnt t _ _ hc']
   simp [nodesL,Ty.cnt];omega
end
theorem large_cnt {t:Ty} (h:t.large=false):t.cnt≤200:=by
 have h1:=big_cnt t 40 0 h
 have h2:=(big_le t 40 0 (by omega)).2.2 h
 omega
theorem fold_and (p:Ty→Bool):∀ (l:List Ty) (b:Bool),l.foldl (fun b t=>b && p t) b=(b && l.all p)
 | [],b=>by simp
 | t::l,b=>by simp [fold_and p l,Bool.and_assoc]
theorem validate_c (t:Ty) (H:AHeap):ACalls Tryz.prog 165 [t.enc] H (intV t.valid) H:=by
 obtain ⟨nm,l⟩:=t
 refine acalls_walk (fun _=>.imm) [0,1,2,3,5,10] Tryz.mixed Tryz.func165 rfl rfl rfl (by decide) (fun hcl hlow=>?_)
 simp only [Ty.enc,Ty.cells]
 repeat with_reducible refine awp_assoc ?_
 refine awp_sr fun K hK=>?_
 simp
 refine hK _ _ ?_
 clear hK K
 repeat with_reducible refine awp_assoc ?_
 refine awp_sr fun K hK=>?_
 refine aOps_split 1 fun K hK=>?_
 simp
 refine hK _ _ ?_
 clear hK K
 have hc:=isLarge_c (.mk nm l)
 simp only [Ty.enc,Ty.cells,cellsL_eq] at hc
 refine aOps_call (hc _) (by first | rfl | simp) rfl rfl rfl ?_
 clear hc
 simp
 refine hK _ _ ?_
 clear hK K
 cases hl:(Ty.mk nm l).large
 rotate_left
 ·repeat with_reducible refine awp_assoc ?_
  refine awp_seq_k fun K hK=>?_
  refine awp_condT rfl (by simp [hl]) ?_
  repeat with_reducible refine awp_assoc ?_
  refine awp_sr fun K hK=>?_
  simp
  refine hK _ _ ?_
  clear hK K
  simp [Ty.valid,hl,reset_all hcl]
 repeat with_reducible refine awp_assoc ?_
 refine awp_seq_k fun K hK=>?_
 refine awp_condF rfl (by simp [hl]) ?_
 refine awp_skip ?_
 refine hK _ _ ?_
 clear hK K
 repeat with_reducible refine awp_assoc ?_
 refine awp_sr fun K hK=>?_
 simp
 refine hK _ _ ?_
 clear hK K
 repeat with_reducible refine awp_assoc ?_
 refine awp_sr fun K hK=>?_
 refine aOps_split 2 fun K hK=>?_
 simp
 refine hK _ _ ?_
 clear hK K
 have hc:=each_c (g:=221) (caps:=[.ref (nid H.next 1) 0]) (B:=fun b:Bool=>[(nid H.next 1,.cells [boolV b])]) (ids:=[nid H.next 1]) (f:=fun b t=>b && t.node) (I:=fun _ _=>True) (n0:=nid H.next 2)
  (fun _=>rfl) (by simp) (by simp) (by simp) (fun _ _ _ _=>trivial)
  (fun t b m H' _ hn hh=>by simpa [puts] using validate1_c t b (nid H.next 1) H' hh.1)
  (.mk nm l) true 0 (HL H [.cells [.v (.string nm),.slice (l.map Ty.cells) none],.cells [boolV true]]) (by have:=large_cnt hl;omega) trivial (by simp) (by simp [Holds])
 rw [fold_and] at hc
 simp only [puts] at hc
 rw [upd_nid rfl (by simp)] at hc
 simp only [Ty.enc,Ty.cells,cellsL_eq] at hc
 refine aOps_call hc (by first | rfl | simp) rfl rfl rfl ?_
 simp
 refine hK _ _ ?_
 clear hK K
 have e:(Ty.mk nm l).nodes.all Ty.node=(Ty.mk nm l).good:=rfl
 rw [e]
 repeat with_reducible refine awp_assoc ?_
 refine awp_sr fun K hK=>?_
 simp
 refine hK _ _ ?_
 clear hK K
 cases hg:(Ty.mk nm l).good
 ·repeat with_reducible refine awp_assoc ?_
  refine awp_seq_k fun K hK=>?_
  refine awp_condT rfl (by simp) ?_
  repeat with_reducible refine awp_assoc ?_
  refine awp_sr fun K hK=>?_
  simp
  refine hK _ _ ?_
  clear hK K
  simp [Ty.valid,hl,hg,reset_all hcl]
 ·repeat with_reducible refine awp_assoc ?_
  refine awp_seq_k fun K hK=>?_
  refine awp_condF rfl (by simp) ?_
  refine awp_skip ?_
  refine hK _ _ ?_
  clear hK K
  repeat with_reducible refine awp_assoc ?_
  refine awp_sr fun K hK=>?_
  simp
  refine hK _ _ ?_
  clear hK K
  simp [Ty.valid,hl,hg,reset_all hcl]
end Go.Proofs.YtdppfcbeiplckaaGreat
namespace Go.Proofs.YtdppfcbeiplckaaGreat
open Go Go.Abs Go.Proofs
set_option maxRecDepth 20000
attribute [local simp] aOps wantedA aStep aop aLoad aStore aBin aUn aFieldAddr aField aIndexAddr aIndex aLen aBuild aFill aAlloc aAppend aAppendOwn aMin aMax aBuildSlice litRows newRows isMut isOwn isNilS nilsW bytesR tokW tokAV tokL ret readC splice aeval isLit isLate isCut aCut AV.celled AV.one AV.ofValue Value.oneCell' Value.cells intOp strOp get_nid upd_nid awp aEnd aResults aResult Det unord isCall isNext
attribute [local simp] low_take low_strs low_comp low_tcomp wkEs_refl' WkBs WkEnv WkB WkL WkE WkO ABlock.low lowO lowL lowR AV.low cellsL_eq Ty.low low_map Ty.cells_length Ty.cells_one
def allV:List Ty→Int
 | []=>0
 | t::ts=>if t.valid=0 then allV ts else t.valid
theorem take_one {α:Type} {l:List α} {k:Nat} {x:α} (h:l[k]?=some x):l.take (k+1)=l.take k++[x]:=by
 rw [List.take_add_one,h];rfl
def spS:ByteArray:=⟨#[32]⟩
def plainT (n:ByteArray) (fs:List (Nat→ByteArray)):ByteArray:=fs.foldl (fun s f=>s++(spS++f 2)) n
mutual
def Ty.wt:Ty→Nat
 | .mk n l=>n.size+8+wtL l
def wtL:List Ty→Nat
 | []=>0
 | t::ts=>t.wt+wtL ts
end
@[simp] theorem plainT_nil (n:ByteArray):plainT n []=n:=rfl
end Go.Proofs.YtdppfcbeiplckaaGreat
