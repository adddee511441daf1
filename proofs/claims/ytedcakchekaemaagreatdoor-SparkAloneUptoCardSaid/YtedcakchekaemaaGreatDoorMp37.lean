/- Contracts of the program, part 37. -/
import Derived.Test.YtedcakchekaemaaGreatDoorMp33
set_option maxRecDepth 100000
set_option maxHeartbeats 16000000
set_option linter.all false
namespace Go.Proofs.YtedcakchekaemaaGreatDoor
open Go.RowKit
variable [Kd]
theorem qx{B:Nat}{w5:World}{av:Option Addr}{n cv:Nat}{TV:List (ByteArray×ByteArray)}(h:Sl 43 lU 2 B w5 (.slice av n cv) TV){j:Nat}(hj:j<TV.length): ∃gv,av=some ⟨gv,0,none⟩/\ ∀W,ai [] w5 W->W.cell? ⟨gv,j*2,none⟩=some (.string TV[j].1)/\W.cell? ⟨gv,j*2+1,none⟩=some (.string TV[j].2):=by
 rcases h.form with⟨_,h2⟩|⟨g,cap,h1,h2,hR⟩
 ·rw[h2]at hj;simp at hj
 ·cases h1
  refine⟨g,rfl,fun W ho=>⟨?_,?_⟩⟩
  ·exact(hR.own ho (by simp)).cell (fun x=>rfl) (c:=0) (List.getElem?_eq_getElem hj) rfl
  ·exact(hR.own ho (by simp)).cell (fun x=>rfl) (c:=1) (List.getElem?_eq_getElem hj) rfl
theorem aah{α:Type}{enc:α->List Value}{k base:Nat}{T:TypeId}{w:World}{v:Value}{l:List α}(h:Sl T enc k base w v l):l.length<=9223372036854775807:=by
 rcases h.form with⟨_,rfl⟩|⟨g,cap,_,_,cur,_,h1,h2,_⟩
 ·simp
 ·unfold maxLen at h2;omega
end Go.Proofs.YtedcakchekaemaaGreatDoor
