/-
  Part of the proof.
-/
import Derived.Test.YtekgndcflpklkaaGreatDoorI
import Derived.Test.YtekgndcflpklkaaGreatDoorProg
import Derived.Shelf.Strings.Cut
import Derived.Shelf.Sort.Plain
import Derived.Shelf.Slices.CompactI
set_option linter.all false
namespace Go.Proofs
section
open Go.Shelf
def Tryz.cutL_ren:Go.Shelf.Ren:=⟨λ|145=>150|220=>179|219=>229|217=>270|225=>271|224=>272|267=>273|266=>299|314=>300|n=>n,λ|9=>9|4=>4|59=>228|3=>3|5=>5|46=>176|146=>338|51=>199|n=>n,λ|1=>2|n=>n⟩
def Tryz.cutL:Go.Proofs.Lays.n145 Tryz.prog Tryz.cutL_ren:=by constructor<;>first|kernel_rfl|(intros;kernel_rfl)
def Tryz.sortL_ren:Go.Shelf.Ren:=⟨λ|189=>149|125=>101|257=>178|128=>124|129=>125|294=>220|295=>221|296=>222|297=>223|298=>224|299=>225|216=>226|300=>227|301=>228|328=>267|329=>145|330=>146|331=>268|332=>269|215=>97|343=>298|n=>n,λ|28=>177|3=>3|46=>176|0=>0|51=>199|53=>201|4=>4|183=>192|182=>191|131=>196|5=>5|9=>9|218=>221|222=>225|228=>257|229=>204|n=>n,λ|n=>n⟩
def Tryz.sortL:Go.Proofs.Lays.n189 Tryz.prog Tryz.sortL_ren:=by constructor<;>first|kernel_rfl|(intros;kernel_rfl)
def Tryz.compL_ren:Go.Shelf.Ren:=⟨λ|20=>305|n=>n,λ|22=>177|3=>3|4=>4|0=>0|n=>n,λ|n=>n⟩
def Tryz.compL:Go.Proofs.Lays2.n20 Tryz.prog Tryz.compL_ren:=by constructor<;>first|kernel_rfl|(intros;kernel_rfl)
end
end Go.Proofs
