/- The code of some functions, as the machine of values has it: printed by vm.py out of the program; each is the program's own (t_..: by the kernel). -/
import Derived.Test.YtknphdcjopaaoaaDoorVmO
import Derived.Test.YtknphdcjopaaoaaDoorProg
import Derived.KernelRfl
namespace Go.Proofs.YtknphdcjopaaoaaDoor
set_option linter.unusedVariables false
set_option linter.defProp false
set_option maxRecDepth 100000

/-! (*strings.Builder).WriteByte -/
def c_strings_Builder_WriteByte_k1 : VCode := .seq (.ops [⟨some 5, .p (.mov (.t 0)), none⟩,
    ⟨some 6, .s (.call 55 [.t 5]), none⟩] [0, 1])
  (.seq (.ops [⟨some 7, .p (.mov (.t 0)), none⟩,
    ⟨some 8, .p (.mov (.t 0)), none⟩,
    ⟨some 9, .p (.nilc (.t 8)), none⟩,
    ⟨some 10, .p (.fieldA 1 1 (.t 9)), none⟩,
    ⟨some 11, .p (.load false 1 (.t 10)), none⟩,
    ⟨some 12, .p (.mov (.t 1)), none⟩,
    ⟨some 13, .s (.bslice 1 1 (.val (.int .u8 ((0 : Nat) : Int))) [⟨0, .t 12⟩]), none⟩,
    ⟨some 14, .s (.app 1 1 5 (.t 11) (.t 13)), none⟩,
    ⟨some 15, .p (.nilc (.t 7)), none⟩,
    ⟨some 16, .p (.fieldA 1 1 (.t 15)), none⟩,
    ⟨none, .s (.store 1 (.t 16) (.t 14)), none⟩] [])
  (.seq (.ops [⟨some 4, .p (.mov (.c .nilIface)), none⟩] [4])
  (.ret)))
def c_strings_Builder_WriteByte : VCode := .seq (.ops [⟨some 4, .p (.mov (.c .nilIface)), none⟩] [0, 1])
  c_strings_Builder_WriteByte_k1
def r_strings_Builder_WriteByte : List VR := [.tmp 4]
theorem t_strings_Builder_WriteByte : Tryd.f33.body.bind (trC Tryd.prog Tryd.f33.ntmps) = some (er c_strings_Builder_WriteByte) := by kernel_rfl
theorem w_strings_Builder_WriteByte : trR Tryd.prog Tryd.f33.results.toList = some r_strings_Builder_WriteByte := by kernel_rfl
theorem u_strings_Builder_WriteByte_k1_e {P : Program} {Q : VEx → Env → List Ob → Prop} {e : Env} {H : List Ob} : vwp P c_strings_Builder_WriteByte_k1 Q e H = vwp P (.seq (.ops [⟨some 5, .p (.mov (.t 0)), none⟩,
    ⟨some 6, .s (.call 55 [.t 5]), none⟩] [0, 1])
  (.seq (.ops [⟨some 7, .p (.mov (.t 0)), none⟩,
    ⟨some 8, .p (.mov (.t 0)), none⟩,
    ⟨some 9, .p (.nilc (.t 8)), none⟩,
    ⟨some 10, .p (.fieldA 1 1 (.t 9)), none⟩,
    ⟨some 11, .p (.load false 1 (.t 10)), none⟩,
    ⟨some 12, .p (.mov (.t 1)), none⟩,
    ⟨some 13, .s (.bslice 1 1 (.val (.int .u8 ((0 : Nat) : Int))) [⟨0, .t 12⟩]), none⟩,
    ⟨some 14, .s (.app 1 1 5 (.t 11) (.t 13)), none⟩,
    ⟨some 15, .p (.nilc (.t 7)), none⟩,
    ⟨some 16, .p (.fieldA 1 1 (.t 15)), none⟩,
    ⟨none, .s (.store 1 (.t 16) (.t 14)), none⟩] [])
  (.seq (.ops [⟨some 4, .p (.mov (.c .nilIface)), none⟩] [4])
  (.ret)))) Q e H := by_refl rfl
theorem u_strings_Builder_WriteByte_e {P : Program} {Q : VEx → Env → List Ob → Prop} {e : Env} {H : List Ob} : vwp P c_strings_Builder_WriteByte Q e H = vwp P (.seq (.ops [⟨some 4, .p (.mov (.c .nilIface)), none⟩] [0, 1])
  c_strings_Builder_WriteByte_k1) Q e H := by_refl rfl
theorem u_strings_Builder_WriteByte_r {K : TV → Prop} {e : Env} {H : List Ob} : res r_strings_Builder_WriteByte e H K = res [.tmp 4] e H K := by_refl rfl
def u_strings_Builder_WriteByte := (And.intro (And.intro @u_strings_Builder_WriteByte_k1_e @u_strings_Builder_WriteByte_e) @u_strings_Builder_WriteByte_r)
theorem go_strings_Builder_WriteByte {args : List TV} {H : List Ob} {R : TV → List Ob → Prop} (hn : args.length ≤ 17) (h : vwp Tryd.prog c_strings_Builder_WriteByte (atEnd r_strings_Builder_WriteByte R) (argsE 0 args) H) : VCalls Tryd.prog 33 args H R := vcalls_of Tryd.func33 t_strings_Builder_WriteByte w_strings_Builder_WriteByte hn h

end Go.Proofs.YtknphdcjopaaoaaDoor
