/- The code of some functions, as the machine of values has it: printed by vm.py out of the program; each is the program's own (t_..: by the kernel). -/
import Derived.Test.YtijidndhlgbjhaaDoorBaseC
import Derived.Test.YtijidndhlgbjhaaDoorProg
import Derived.KernelRfl
namespace Go.Proofs.YtijidndhlgbjhaaDoor
variable [Globs]
set_option linter.unusedSectionVars false
set_option linter.unusedVariables false
set_option linter.defProp false
set_option maxRecDepth 100000

/-! (*strings.Builder).WriteString -/
def c_strings_Builder_WriteString_k1 : VCode := .seq (.ops [⟨some 8, .p (.mov (.t 0)), none⟩,
    ⟨some 9, .p (.mov (.t 0)), none⟩,
    ⟨some 10, .p (.nilc (.t 9)), none⟩,
    ⟨some 11, .p (.fieldA 1 1 (.t 10)), none⟩,
    ⟨some 12, .p (.load false 1 (.t 11)), none⟩,
    ⟨some 13, .p (.mov (.t 1)), none⟩,
    ⟨some 14, .s (.appS 5 (.t 12) (.t 13)), none⟩,
    ⟨some 15, .p (.nilc (.t 8)), none⟩,
    ⟨some 16, .p (.fieldA 1 1 (.t 15)), none⟩,
    ⟨none, .s (.store 1 (.t 16) (.t 14)), none⟩] [1])
  (.seq (.ops [⟨some 17, .p (.mov (.t 1)), none⟩,
    ⟨some 18, .p (.lenS (.t 17)), none⟩,
    ⟨some 4, .p (.mov (.t 18)), none⟩,
    ⟨some 5, .p (.mov (.c .nilIface)), none⟩] [4, 5])
  (.ret))
def c_strings_Builder_WriteString_k2 : VCode := .seq (.ops [⟨some 6, .p (.mov (.t 0)), none⟩,
    ⟨some 7, .s (.call 176 [.t 6]), none⟩] [0, 1])
  c_strings_Builder_WriteString_k1
def c_strings_Builder_WriteString : VCode := .ownT 0 [(1, 1)] 5 (.seq (.ops [⟨some 4, .p (.mov (.c (.int .i64 ((0 : Nat) : Int)))), none⟩,
    ⟨some 5, .p (.mov (.c .nilIface)), none⟩] [0, 1])
  c_strings_Builder_WriteString_k2)
def r_strings_Builder_WriteString : List VR := [.tmp 4, .tmp 5]
theorem t_strings_Builder_WriteString : Tryd.f116.body.bind (trC Tryd.prog Tryd.f116.ntmps) = some (er c_strings_Builder_WriteString) := by kernel_rfl
theorem w_strings_Builder_WriteString : trR Tryd.prog Tryd.f116.results.toList = some r_strings_Builder_WriteString := by kernel_rfl
theorem u_strings_Builder_WriteString_k1_e {P : Program} {Q : VEx → Env → List Ob → Prop} {e : Env} {H : List Ob} : vwp P c_strings_Builder_WriteString_k1 Q e H = vwp P (.seq (.ops [⟨some 8, .p (.mov (.t 0)), none⟩,
    ⟨some 9, .p (.mov (.t 0)), none⟩,
    ⟨some 10, .p (.nilc (.t 9)), none⟩,
    ⟨some 11, .p (.fieldA 1 1 (.t 10)), none⟩,
    ⟨some 12, .p (.load false 1 (.t 11)), none⟩,
    ⟨some 13, .p (.mov (.t 1)), none⟩,
    ⟨some 14, .s (.appS 5 (.t 12) (.t 13)), none⟩,
    ⟨some 15, .p (.nilc (.t 8)), none⟩,
    ⟨some 16, .p (.fieldA 1 1 (.t 15)), none⟩,
    ⟨none, .s (.store 1 (.t 16) (.t 14)), none⟩] [1])
  (.seq (.ops [⟨some 17, .p (.mov (.t 1)), none⟩,
    ⟨some 18, .p (.lenS (.t 17)), none⟩,
    ⟨some 4, .p (.mov (.t 18)), none⟩,
    ⟨some 5, .p (.mov (.c .nilIface)), none⟩] [4, 5])
  (.ret))) Q e H := by_refl rfl
theorem u_strings_Builder_WriteString_k2_e {P : Program} {Q : VEx → Env → List Ob → Prop} {e : Env} {H : List Ob} : vwp P c_strings_Builder_WriteString_k2 Q e H = vwp P (.seq (.ops [⟨some 6, .p (.mov (.t 0)), none⟩,
    ⟨some 7, .s (.call 176 [.t 6]), none⟩] [0, 1])
  c_strings_Builder_WriteString_k1) Q e H := by_refl rfl
theorem u_strings_Builder_WriteString_e {P : Program} {Q : VEx → Env → List Ob → Prop} {e : Env} {H : List Ob} : vwp P c_strings_Builder_WriteString Q e H = vwp P (.ownT 0 [(1, 1)] 5 (.seq (.ops [⟨some 4, .p (.mov (.c (.int .i64 ((0 : Nat) : Int)))), none⟩,
    ⟨some 5, .p (.mov (.c .nilIface)), none⟩] [0, 1])
  c_strings_Builder_WriteString_k2)) Q e H := by_refl rfl
theorem u_strings_Builder_WriteString_r {K : TV → Prop} {e : Env} {H : List Ob} : res r_strings_Builder_WriteString e H K = res [.tmp 4, .tmp 5] e H K := by_refl rfl
def u_strings_Builder_WriteString := (And.intro (And.intro @u_strings_Builder_WriteString_k1_e @u_strings_Builder_WriteString_k2_e) (And.intro @u_strings_Builder_WriteString_e @u_strings_Builder_WriteString_r))
theorem go_strings_Builder_WriteString {args : List TV} {H : List Ob} {R : TV → List Ob → Prop} (hn : args.length ≤ 19) (h : vwp Tryd.prog c_strings_Builder_WriteString (atEnd r_strings_Builder_WriteString R) (argsE 0 args) H) : VCalls Tryd.prog 116 args H R := vcalls_of Tryd.func116 t_strings_Builder_WriteString w_strings_Builder_WriteString hn h

end Go.Proofs.YtijidndhlgbjhaaDoor
