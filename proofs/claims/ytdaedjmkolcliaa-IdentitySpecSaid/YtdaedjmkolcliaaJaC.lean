/- The examples of layer 45, reckoned by the kernel. -/
import Derived.Test.YtdaedjmkolcliaaJaB
namespace Go.Proofs.Ytdaedjmkolcliaa
set_option linter.unusedVariables false
set_option linter.unusedSimpArgs false
open Go.RowKit Go.Shelf

namespace Id
abbrev ea : List Sg := edl 0 [1, -5, 2]
abbrev eb : List Sg := edl 0 [-1]
abbrev ec : List Sg := edl 0 [1]
abbrev three : List (List Sg) := [edl 0 [1, 2, 3, 4], edl 0 [1, 2, 3, 9], edl 0 [1, 2, 8, 9]]
theorem x_ess1 : essE ea = 0 ∧ ess ea = [8388736, 8388864] := by decide +kernel
theorem x_ess2 : essE [] = 0 ∧ ess [] = [] := by decide +kernel
theorem x_near1 : nearB [] eb 0 = true ∧ eE 0 [[], eb] = 0 := by decide +kernel
theorem x_near2 : nearB [] ec 999 = false ∧ eE 999 [[], ec] = 0 := by decide +kernel
theorem x_near3 : nearB [] ec 1000 = true ∧ eE 1000 [[], ec] = 0 := by decide +kernel
theorem x_near4 : nearB [] [] 1001 = false ∧ eE 1001 [[], []] = 450 := by decide +kernel
theorem x_same1 : smB 200 three 0 2 = true ∧ chain 200 three 0 2 = [0, 1, 2] := by decide +kernel
theorem x_apart1 : apB 200 three 0 2 = false ∧ aE 200 three 0 2 = 0 := by decide +kernel
theorem x_apart2 : apB 180 three 0 2 = true ∧ side 3 (gr 180 three) 0 = [true, false, false] := by decide +kernel
theorem x_same2 : smB 180 three 0 2 = false ∧ aE 180 three 0 2 = 0 := by decide +kernel
theorem x_works1 : tE 200 three = 0 ∧ wrks 3 (gr 200 three) = [0, 0, 0] := by decide +kernel
theorem x_works2 : tE 180 three = 0 ∧ wrks 3 (gr 180 three) = [0, 1, 2] := by decide +kernel
theorem x_same3 : smB 0 three 1 1 = true ∧ chain 0 three 1 1 = [1] := by decide +kernel
theorem x_same4 : smB 0 [edl 0 [1, 2, 3, 4], edl 0 [1, 2, 3, 9]] 0 2 = false ∧ aE 0 [edl 0 [1, 2, 3, 4], edl 0 [1, 2, 3, 9]] 0 2 = 1 := by decide +kernel
end Id
end Go.Proofs.Ytdaedjmkolcliaa
