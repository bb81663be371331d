/- The examples of the medium. Conditions: none. -/
import Derived.Test.YtiepojpebndgoaaRaSpec
namespace Ra
open Go.GX Tp
def aE : List Ed := [⟨0, 1⟩, ⟨0, 2⟩, ⟨1, 2⟩]
def a0 : Air := ⟨aE, [], []⟩
def frx (d : Int) : Fr := ⟨0, 0, d, 0, 0, 0, 0, false, []⟩
theorem ex_check0 : Ra.check a0 = 0 := by decide
theorem ex_san0 : san a0 = a0 := san_ok ex_check0
theorem ex_recv255 : recv a0 (frx 255) = [1, 2] := by decide +kernel
theorem ex_ack255 : acked a0 (frx 255) = true := by decide +kernel
theorem ex_recv1 : recv a0 (frx 1) = [1] := by decide +kernel
theorem ex_ack1 : acked a0 (frx 1) = true := by decide +kernel
theorem ex_jam0 : (jamAll a0 [0]).take 24 = [0] := by decide +kernel
theorem ex_jam1 : (jamAll a0 [1]).take 24 = [1] := by decide +kernel
def b0 : Air := ⟨aE, [], [0]⟩
def b1 : Air := ⟨aE, [], [1]⟩
theorem ex_san_b0 : san b0 = b0 := san_ok (by decide)
theorem ex_san_b1 : san b1 = b1 := san_ok (by decide)
theorem ex_recv_b0 : recv b0 (frx 1) = [1] := by decide +kernel
theorem ex_ack_b0 : acked b0 (frx 1) = false := by decide +kernel
theorem ex_recv_b1 : recv b1 (frx 1) = [] := by decide +kernel
theorem ex_ack_b1 : acked b1 (frx 1) = false := by decide +kernel
theorem ex_chan0 : chan [5, 3, 3] 0 5 = 0 := by decide
theorem ex_chan1 : chan [5, 3, 3] 0 4 = 1 := by decide
theorem ex_check2 : Ra.check ⟨[], [251], []⟩ = 2 := by decide
end Ra
