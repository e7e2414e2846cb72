import Derived.Test.YthgajbfgolcpkaaBag7
/- Packets with the news 0, 1, .. -/
namespace Go.Proofs.Ythgajbfgolcpkaa
@[reducible] def ack (j : Nat) : Pk := (0, 0, 0, (j : Int))
def acks (n : Nat) : List Pk := (List.range n).map ack
theorem acks_length (n : Nat) : (acks n).length = n := by simp [acks]
theorem acks_at {n k : Nat} (h : k < n) : (acks n)[k]? = some (ack k) := by simp [acks, h]
theorem acks_succ (n : Nat) : acks n ++ [(0, 0, 0, (n : Int))] = acks (n + 1) := by rw [show ((0, 0, 0, (n : Int)) : Pk) = ack n from rfl]; simp [acks, List.range_succ]
end Go.Proofs.Ythgajbfgolcpkaa
