/- Plain: a sign compared with the empty one. -/
import Derived.Test.YtdaedjmkolcliaaPtC
import Derived.Laws.StructEq
namespace Go.Proofs.Ytdaedjmkolcliaa
set_option linter.unusedVariables false
set_option linter.unusedSimpArgs false
open Go.RowKit Go.Shelf
namespace Id
abbrev sg0 : Sg := ⟨0, 0, 0, 0, 0, 0, 0, 0, 0, 0, 0, 0, 0, 0⟩
def isZ (x : Sg) : Bool := x.id == 0 && (x.role == 0 && (x.bar == 0 && (x.mark == 0 && (x.kind == 0 && (x.side == 0 && (x.dir == 0 && (x.level == 0 && (x.size == 0 && (x.wth == 0 && (x.fn == 0 && (x.fd == 0 && (x.tn == 0 && x.td == 0))))))))))))
set_option maxHeartbeats 1000000 in
theorem eq_sg (x : Sg) (w : World) : (Op.equalIn 10000 49 (sgV x) (sgV sg0)).run Try.prog w = .ok (isZ x) w := by
  obtain ⟨a, b, c, d, e, f, g, h, i, j, k, l, m, n⟩ := x
  unfold isZ
  simp [go_sem]
  by_cases h_a : a = 0
  case neg => simp [h_a]
  subst h_a
  by_cases h_b : b = 0
  case neg => simp [h_b]
  subst h_b
  by_cases h_c : c = 0
  case neg => simp [h_c]
  subst h_c
  by_cases h_d : d = 0
  case neg => simp [h_d]
  subst h_d
  by_cases h_e : e = 0
  case neg => simp [h_e]
  subst h_e
  by_cases h_f : f = 0
  case neg => simp [h_f]
  subst h_f
  by_cases h_g : g = 0
  case neg => simp [h_g]
  subst h_g
  by_cases h_h : h = 0
  case neg => simp [h_h]
  subst h_h
  by_cases h_i : i = 0
  case neg => simp [h_i]
  subst h_i
  by_cases h_j : j = 0
  case neg => simp [h_j]
  subst h_j
  by_cases h_k : k = 0
  case neg => simp [h_k]
  subst h_k
  by_cases h_l : l = 0
  case neg => simp [h_l]
  subst h_l
  by_cases h_m : m = 0
  case neg => simp [h_m]
  subst h_m
  by_cases h_n : n = 0
  case neg => simp [h_n]
  subst h_n
  simp
end Id
end Go.Proofs.Ytdaedjmkolcliaa
