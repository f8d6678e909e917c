/- Chapter 24: may an item be, whole. Printed by gen_fine24.py. -/
import Derived.Test.YtpnmhldaaaemeaaFineN24
import Derived.Test.YtpnmhldaaaemeaaFineO24
import Derived.Test.YtpnmhldaaaemeaaFineY24
import Derived.Test.YtpnmhldaaaemeaaFineZ24
namespace Go.Proofs.Ytpnmhldaaaemeaa.Snp
open Go.RowKit Go.Proofs.Ytpnmhldaaaemeaa.Pin

theorem fine_any (it : It) (c : Cl) (ab : Nat) (w : World) (hv : ValAt w w.heap.size c it.val) (hB : VaB it.val) (hab : w.heap[ab]? = some (.cells kindsA 59 (0, 0))) : Asks 19 #[iV it c, .pointer (some ⟨ab, 0, none⟩)] w (FineP it) := by
  by_cases h1 : it.db < 0
  · exact fine_no1 it c ab w hv hB hab h1
  by_cases h2 : ¬ it.db < 16
  · exact fine_no2 it c ab w hv hB hab h1 h2
  have h2 := Classical.not_not.1 h2
  by_cases h3 : ¬ MayP it.key
  · exact fine_no3 it c ab w hv hB hab h1 h2 h3
  have h3 := Classical.not_not.1 h3
  by_cases h4 : it.dead < 0
  · exact fine_no4 it c ab w hv hB hab h1 h2 h3 h4
  by_cases h5 : ¬ it.dead ≤ 9007199254740992
  · exact fine_no5 it c ab w hv hB hab h1 h2 h3 h4 h5
  have h5 := Classical.not_not.1 h5
  by_cases h6 : ¬ 1 ≤ it.val.kind
  · exact fine_no6 it c ab w hv hB hab h1 h2 h3 h4 h5 h6
  have h6 := Classical.not_not.1 h6
  by_cases h7 : ¬ it.val.kind ≤ 6
  · exact fine_no7 it c ab w hv hB hab h1 h2 h3 h4 h5 h6 h7
  have h7 := Classical.not_not.1 h7
  by_cases h8 : ¬ PlainP it.val
  · exact fine_no8 it c ab w hv hB hab h1 h2 h3 h4 h5 h6 h7 h8
  have h8 := Classical.not_not.1 h8
  have hk : it.val.kind = 1 ∨ it.val.kind = 2 ∨ it.val.kind = 3 ∨ it.val.kind = 4 ∨ it.val.kind = 5 ∨ it.val.kind = 6 := by omega
  rcases hk with hk | hk | hk | hk | hk | hk
  · exact fine_a it c ab w hv hB hab h1 h2 h3 h4 h5 h8 hk
  · exact fine_b it c ab w hv hB hab h1 h2 h3 h4 h5 h8 hk
  · exact fine_c it c ab w hv hB hab h1 h2 h3 h4 h5 h8 hk
  · exact fine_d it c ab w hv hB hab h1 h2 h3 h4 h5 h8 hk
  · exact fine_e it c ab w hv hB hab h1 h2 h3 h4 h5 h8 hk
  · exact fine_f it c ab w hv hB hab h1 h2 h3 h4 h5 h8 hk
end Go.Proofs.Ytpnmhldaaaemeaa.Snp
