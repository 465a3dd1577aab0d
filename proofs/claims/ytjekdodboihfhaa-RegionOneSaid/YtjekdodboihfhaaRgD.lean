/- The mark of no spans: one long reckoning. (Printed by tools/mkrg4.py.) -/
import Derived.Test.YtjekdodboihfhaaRg3
set_option linter.all false
namespace Go.Proofs.Ytjekdodboihfhaa
theorem dig_nil : hmacM keyB (tableM []) = [172, 54, 23, 127, 80, 40, 60, 212, 184, 56, 33, 216, 171, 38, 222, 98] := by decide +kernel
end Go.Proofs.Ytjekdodboihfhaa
