/- The plain words of the chapter on disks: no program in sight. No condition. -/
import Derived.Test.YtednelejpkchbaaDk0
namespace Go.Proofs.Ytednelejpkchbaa

/-- whether it has no power, after how many writes it loses it (0: never), what is durable, what is visible, the writes between -/
structure DiskD where
  off : Bool
  left : Int
  dur : List UInt8
  vis : List UInt8
  pend : List (Int × List UInt8)
def ePower : Int := 361
def insideB (n : Nat) (off len : Int) : Bool := decide (0 ≤ off) && decide (0 ≤ len) && decide (off ≤ n) && decide (len ≤ n - off)
def usedD (d : DiskD) : DiskD := if d.left = 0 then d else ⟨decide (d.left - 1 = 0), d.left - 1, d.dur, d.vis, d.pend⟩
/-- the writes lie on the disk, both contents have its size -/
structure DiskOk (n : Nat) (d : DiskD) : Prop where
  size : 1 ≤ n ∧ n ≤ 4194304
  dur : d.dur.length = n
  vis : d.vis.length = n
  left : 0 ≤ d.left ∧ d.left ≤ 9223372036854775807
  pend : ∀ p ∈ d.pend, 0 ≤ p.1 ∧ p.1 + p.2.length ≤ n
  few : d.pend.length ≤ 1000
end Go.Proofs.Ytednelejpkchbaa
