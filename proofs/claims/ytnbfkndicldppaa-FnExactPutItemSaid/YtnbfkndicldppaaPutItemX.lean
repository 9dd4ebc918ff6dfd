/- FnExactPutItem: both give the same items; what is marked holds its marks. -/
import Derived.Test.YtnbfkndicldppaaPutItem
import Derived.Test.YtnbfkndicldppaaMark
namespace Go.Proofs.Ytnbfkndicldppaa.Core
open Go
set_option linter.unusedVariables false
set_option linter.unusedSimpArgs false

theorem law_FnExactPutItem (x0 : List TItem) (hx0 : Kd.ok (.slice (.pair .str (.pair .str (.int .i64)))) x0) (x1 : TItem) (hx1 : Kd.ok (.pair .str (.pair .str (.int .i64))) x1) : F_laws_FnExactPutItem x0 x1 = some true := f_laws_FnExactPutItem (by
  unfold t_laws_FnExactPutItem
  obtain ⟨r, hr, hl⟩ := F_laws_szItemS_ok x0 hx0.1 1048576 (by omega)
  rw [hr, Option.bind_some]
  by_cases h2 : r < 0
  · rw [if_pos (by simpa using h2)]
  · have hlen : x0.length ≤ 1048576 := by omega
    rw [if_neg (by simpa using h2)]
    obtain ⟨q, hq⟩ := F72_ex x1 r
    rw [hq, Option.bind_some]
    by_cases h3 : q < 0
    · rw [if_pos (by simpa using h3)]
    · rw [if_neg (by simpa using h3)]
      have hp : (putItem x0 x1).length ≤ 2097153 := by
        have := laid_length x0 x1
        unfold putItem
        repeat' split
        all_goals omega
      have J0 : W_laws_FnExactPutItem_J0 x0 (!true) x1 x0 (putItem x0 x1) (marksI 1 x0.length) (putItem x0 x1) x0 = some true := w_laws_FnExactPutItem_J0 (by
        unfold t_laws_FnExactPutItem_J0
        rw [F_laws_markItemS_eq 1 (putItem x0 x1) (by omega) (by omega) (by omega), Option.bind_some]
        simp only [F_laws_heldItemS_eq 1 (putItem x0 x1).length (by omega) (by omega) (by omega), Option.bind_some, F_laws_toItemS_eq x0 (by omega), F_laws_toItem_eq, F_impl_PutItem_eq x0 x1 (by omega), F_laws_eqItemS_same (putItem x0 x1) (by omega)]
        rw [if_neg (by simp; omega), if_neg (by simp), if_neg (by simp), if_neg (by simp; omega), if_neg (by simp)])
      simp only [F_laws_toItemS_eq x0 (by omega), F_laws_toItem_eq, F_spec_PutItem_eq x0 x1 (by omega), F_impl_PutItem_eq x0 x1 (by omega), F_laws_eqItemS_same (putItem x0 x1) (by omega), F_laws_eqItemS_same x0 (by omega), F_laws_markItemS_eq 1 x0 (by omega) (by omega) (by omega), Option.bind_some]
      rw [if_neg (by simp), if_neg (by simp), if_pos (by simp; omega), if_neg (by simp)]
      exact J0)

end Go.Proofs.Ytnbfkndicldppaa.Core
