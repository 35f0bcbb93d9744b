/- A store answers every call as the document says. -/
import Derived.Test.YtenbcpjlbfojlaaEI
namespace Go.Proofs.Ytenbcpjlbfojlaa.DA
open Go.RowKit Go.Proofs.YtenbcpjlbfojlaaW.PrintWords Go.Proofs.YtenbcpjlbfojlaaW.PrintLast Go.Proofs.YtenbcpjlbfojlaaW.PrintMore Go.Proofs.Ytenbcpjlbfojlaa.PD
theorem plays_law (n : Int) (A : Option Addr) (len c : Nat) (l : List S31) (w : World) (hC : Kd.C k31 w A len l) (hnc : len ≤ c) (hc : c ≤ 9223372036854775807) (hs : Steps l) :
    Calls Try.prog 5 #[.int .i64 n, .slice A len c] w fun e w' => e = .returned (.bool true) ∧ Below w.heap.size w w' := by
  by_cases h : n < 1 ∨ n > 1024
  · exact plays_bad n h A len c w
  · obtain ⟨m, rfl⟩ : ∃ m : Nat, n = (m : Int) := ⟨n.toNat, by omega⟩
    by_cases h2 : m ≤ 20
    · exact plays_main m (by omega) h2 A len c l w hC hnc hc hs
    · exact plays_many m (by omega) (by omega) A len c w
end Go.Proofs.Ytenbcpjlbfojlaa.DA
