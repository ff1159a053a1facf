/- The sample's dictionary, read. -/
import Derived.Test.YtmcaednlilhnoaaGreatDoorSk
import Derived.Test.YtmcaednlilhnoaaGreatDoorReadLaw
namespace Go.Proofs.YtmcaednlilhnoaaGreatDoor
open Go.RowKit Go.Zone Go.Shelf
theorem readD_k : readD dK = some (1, ysK, 21) := by
  have hk : hdKind dK = 1 := by decide
  have hn : hdN dK 1 false = 2 := by decide
  have h1 : readV 1 dK 5 = (vK (-1), true, 13, false) := by
    have e : numR 1 dK 5 false = (18446744073709551615, 13, false) := by decide +kernel
    have e2 : wrap64 18446744073709551615 = -1 := by unfold wrap64; omega
    unfold readV
    rw [e]
    simp [e2, vK]
  have h2 : readV 1 dK 13 = (vK 5, true, 21, false) := by
    have e : numR 1 dK 13 false = (5, 21, false) := by decide +kernel
    have e2 : wrap64 5 = 5 := by unfold wrap64; omega
    unfold readV
    rw [e]
    simp [e2, vK]
  have hc : ¬ 0 ≤ cmpV (vK (-1)) (vK 5) := by rw [cmp_vK]; decide
  unfold readD
  rw [if_neg (by decide), hk, hn]
  simp [loopD, h1, h2, hc, ysK]
theorem dK_len : dK.length = 21 := by decide
theorem fK_len : fK.length = 10 := by decide
end Go.Proofs.YtmcaednlilhnoaaGreatDoor
