/- Package match: begin, along, Match. -/
import Derived.Test.YtldagaliddgdjaaGreatDoorFilter
import Derived.Deep.QuietTactic
import Derived.BigQuiet
import Derived.Deep.RegionHeld3
import Derived.Deep.RegionWith
import Derived.StillTailTactics
namespace Go.Proofs.YtldagaliddgdjaaGreatDoor
open Go.RowKit Go.Lib Go.Shelf

def fWild (s : ByteArray) : Bool := s.toList.head? == some 43 || s.toList.head? == some 35
def mMatch (f n : ByteArray) : Bool := lvFilter f && lvName n && !(fWild f && lvHidden n) && wants (levels f) (levels n)

end Go.Proofs.YtldagaliddgdjaaGreatDoor
