/- The slot of the least urgent pending interrupt. No condition. -/
import Derived.Test.YtaggjadgbmmjoaaSlBest
namespace Go.Proofs.Ytaggjadgbmmjoaa

def Sl.bn (l : List Sl) : Int := Sl.best false l l.length
theorem Sl.bn_cases (l : List Sl) : Sl.bn l = -1 ∨ ∃ (k : Nat) (s : Sl), Sl.bn l = k ∧ k < l.length ∧ l[k]? = some s ∧ s.state = 1 :=
  (Sl.best_bd false l l.length (Nat.le_refl _)).imp id fun ⟨k, s, h1, h2, h3, h4⟩ => ⟨k, s, h1, h2, h3, h4⟩

end Go.Proofs.Ytaggjadgbmmjoaa
