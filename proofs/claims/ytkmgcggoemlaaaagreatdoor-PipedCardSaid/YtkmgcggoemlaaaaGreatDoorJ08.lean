/-
  Part 8 of the common ground of this seat: what single parts show stands ahead of each.
  No condition.
-/
import Derived.Test.YtkmgcggoemlaaaaGreatDoorJ07
import Derived.Test.YtkmgcggoemlaaaaGreatDoorProg
import Derived.KernelRfl
set_option linter.unusedSimpArgs false
set_option linter.unusedVariables false
set_option linter.constructorNameAsVariable false
section
/- The functions that are walked alone: each is related to itself. -/
namespace Go.Proofs.YtkmgcggoemlaaaaGreatDoor
open Go Go.Fw Go.Extern
def fnB:List FuncId:=[14,16,18,19,20,21,22,23,24,25,26,27,29,30,31,32,33,35,36,37,38,39,40,43,44,47,48,49,50,54,55,58,59,60,61,63,68,69,70,71,72,73,74,75,76,77,78,79,80,81,82,84,85,86,87,88,89,90,91,92,93,94,95,96,97,98,99,100,101,102,103,104,105,106,107,108,109,110,111,112,113,133]
def fnE:List FuncId:=[51,52,53,64,65,66,83,127,128,135,138,140,141]
def FN (f:FuncId):Bool:=fnB.contains f || fnE.contains f
theorem good_all:fnB.all (λf=>bodyOk Tryz.prog f && bodyGood Tryz.prog FN f)=true:=by kernel_rfl
theorem call51:CallOk Tryz.prog FN 51:=callOk_extern Tryz.func51 (by kernel_rfl) (by kernel_rfl) (by kernel_rfl) (e:=λargs=>ReflectliteValue.unpack (args.getD 0 (.tuple #[]))) (by kernel_rfl) λδ xs XS h=>by
 refine rel_unpack ?_;rw[Array.getD_eq_getD_getElem?,Array.getD_eq_getD_getElem?];cases hv:xs[0]? with
 | none=>rw[h.get_none hv];exact VR.undef
 | some v=>obtain⟨V,hV,hR⟩:=h.get hv;rw[hV];exact hR
theorem call52:CallOk Tryz.prog FN 52:=callOk_extern Tryz.func52 (by kernel_rfl) (by kernel_rfl) (by kernel_rfl) (e:=ReflectliteValue.methodAny (ReflectliteValue.valueError "reflectlite.Value.Type" 0) (λt _ _ _=>ReflectliteType.toType t)) (by kernel_rfl) λδ xs XS h=>
 rel_methodAny (λ_=>rel_valueError _ _) (λδ t a A n k ha=>rel_toType t) h
theorem call53:CallOk Tryz.prog FN 53:=callOk_extern Tryz.func53 (by kernel_rfl) (by kernel_rfl) (by kernel_rfl) (e:=ReflectliteValue.method (ReflectliteValue.valueError "reflectlite.Value.IsNil" 0) ReflectliteValue.isNil) (by kernel_rfl) λδ xs XS h=>
 rel_method (λ_=>rel_valueError _ _) isNil_rel h
theorem call64:CallOk Tryz.prog FN 64:=callOk_extern Tryz.func64 (by kernel_rfl) (by kernel_rfl) (by kernel_rfl) (e:=ReflectliteType.typeOf) (by kernel_rfl) λδ xs XS h=>rel_typeOf h
theorem call65:CallOk Tryz.prog FN 65:=callOk_extern Tryz.func65 (by kernel_rfl) (by kernel_rfl) (by kernel_rfl) (e:=ReflectliteValue.method (ReflectliteValue.valueError "reflectlite.Value.Elem" 0) ReflectliteValue.elem) (by kernel_rfl) λδ xs XS h=>
 rel_method (λ_=>rel_valueError _ _) elem_rel h
theorem call66:CallOk Tryz.prog FN 66:=callOk_extern Tryz.func66 (by kernel_rfl) (by kernel_rfl) (by kernel_rfl) (e:=ReflectliteValue.set) (by kernel_rfl) λδ xs XS h=>rel_set h
theorem call83:CallOk Tryz.prog FN 83:=callOk_extern Tryz.func83 (by kernel_rfl) (by kernel_rfl) (by kernel_rfl) (e:=BytealgCompare.compare) (by kernel_rfl) λδ xs XS h=>rel_compare h
theorem call127:CallOk Tryz.prog FN 127:=callOk_none Tryz.func127 (by kernel_rfl) (by kernel_rfl) (by kernel_rfl) (by kernel_rfl) (by kernel_rfl)
theorem call128:CallOk Tryz.prog FN 128:=callOk_extern Tryz.func128 (by kernel_rfl) (by kernel_rfl) (by kernel_rfl) (e:=ReflectliteType.abiMethod λt=>do pure (.int .u8 (←Rtype.kind t))) (by kernel_rfl) λδ xs XS h=>rel_abiKind h
theorem call135:CallOk Tryz.prog FN 135:=callOk_extern Tryz.func135 (by kernel_rfl) (by kernel_rfl) (by kernel_rfl) (e:=ReflectliteValue.method (pure (.int .u8 0)) λ_ _ _ k=>pure (.int .u8 (Int.ofNat k))) (by kernel_rfl) λδ xs XS h=>
 rel_method (f:=λ_ _ _ k=>pure (.int .u8 (Int.ofNat k))) (λ_=>.pur (.int _ _)) (λδ t a A n k ha=>.pur (.int _ _)) h
theorem call138:CallOk Tryz.prog FN 138:=callOk_extern Tryz.func138 (by kernel_rfl) (by kernel_rfl) (by kernel_rfl) (e:=ReflectliteType.relation "AssignableTo" ReflectliteType.assignableTo) (by kernel_rfl) λδ xs XS h=>rel_relation rel_assignableTo h
theorem call140:CallOk Tryz.prog FN 140:=callOk_extern Tryz.func140 (by kernel_rfl) (by kernel_rfl) (by kernel_rfl) (e:=ReflectliteType.method ReflectliteType.elem) (by kernel_rfl) λδ xs XS h=>rel_tmethod rel_telem h
theorem call141:CallOk Tryz.prog FN 141:=callOk_extern Tryz.func141 (by kernel_rfl) (by kernel_rfl) (by kernel_rfl) (e:=ReflectliteType.relation "Implements" ReflectliteType.implements_) (by kernel_rfl) λδ xs XS h=>rel_relation rel_implements_ h
theorem bodyE:fnE.all (λf=>!bodyOk Tryz.prog f)=true:=by kernel_rfl
theorem lst:Lst Tryz.prog FN where
 call g hg:=by
  have hg':=hg;unfold FN at hg;rcases Bool.or_eq_true_iff.1 hg with h|h
  ·have:=List.all_eq_true.1 good_all g (List.contains_iff_mem.1 h);simp only[Bool.and_eq_true] at this;exact callOk_body this.1 hg'
  ·have hm:g∈fnE:=List.contains_iff_mem.1 h;simp only[fnE,List.mem_cons,List.not_mem_nil,or_false] at hm;rcases hm with rfl|rfl|rfl|rfl|rfl|rfl|rfl|rfl|rfl|rfl|rfl|rfl|rfl
   ·exact call51
   ·exact call52
   ·exact call53
   ·exact call64
   ·exact call65
   ·exact call66
   ·exact call83
   ·exact call127
   ·exact call128
   ·exact call135
   ·exact call138
   ·exact call140
   ·exact call141
 good g hg hb:=by
  unfold FN at hg;rcases Bool.or_eq_true_iff.1 hg with h|h
  ·have:=List.all_eq_true.1 good_all g (List.contains_iff_mem.1 h);simp only[Bool.and_eq_true] at this;exact this.2
  ·have:=List.all_eq_true.1 bodyE g (List.contains_iff_mem.1 h);rw[hb] at this;cases this
end Go.Proofs.YtkmgcggoemlaaaaGreatDoor
end
