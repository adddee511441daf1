/- Package trie: has, Add. -/
import Derived.Test.YtldagaliddgdjaaGreatDoorTrie
import Derived.Deep.RegionWith
import Derived.Deep.RegionHeld3
namespace Go.Proofs.YtldagaliddgdjaaGreatDoor
open Go.RowKit Go.Lib Go.Shelf

def whoN (N : Nodes) (c : Nat) (k : Int) : Option Int := (nFind N c).bind fun n => aGet n.ws k
def hasN (N : Nodes) (root : Nat) (L : List ByteArray) (k : Int) : Bool := match reachN N root L with | some c => (whoN N c k).isSome | none => false
theorem reachN_has {N : Nodes} (hc : Closed' N) : ∀ (L : List ByteArray) {c d : Nat}, Has N c → reachN N c L = some d → Has N d
  | [], c, d, h, e => by unfold reachN at e; cases e; exact h
  | x :: r, c, d, h, e => by
    unfold reachN at e
    cases hs : nSub N c x with
    | none => rw [hs] at e; cases e
    | some m => rw [hs] at e; exact reachN_has hc r (nSub_has hc hs) e
theorem NodeAt.lookWho {w : World} {n : Node} (h : NodeAt w n) (k : Int) : (Instr.lookup 59 (.map (some n.who)) (.int .i64 k) true).run Tryz.prog w = .ok (.tuple #[.int .i64 ((aGet n.ws k).getD 0), .bool (aGet n.ws k).isSome]) w := by
  cases hg : aGet n.ws k with
  | none => exact h.ws.lookup_no whoK whoT k (whoZ _) hg true
  | some v => exact h.ws.lookup_yes whoK whoT k hg true

set_option maxRecDepth 100000 in
set_option maxHeartbeats 4000000 in
theorem has_any (t root : Nat) (N : Nodes) (cnt : List Int) (k : Int) (s : ByteArray) (w : World) (h : Trie w t root N cnt) (hs : s.size ≤ 1048576) :
    Calls Tryz.prog 36 #[.pointer (some ⟨t, 0, none⟩), .int .i64 k, .string s] w fun e w' => e = .returned (.bool (hasN N root (levels s) k)) ∧ Own [] w w' := by
  have cR := Lib.hid (reach_any t root N cnt s w h hs)
  unfold hasN
  have hh := fun d e => reachN_has h.closed (levels s) (d := d) h.has e
  have F := fun w' (ho : Own [] w w') => (h.nil' ho).forest
  generalize reachN N root (levels s) = r at cR hh ⊢
  replace F := Lib.hid F
  cases r with
  | none =>
    simp only [optP] at cR ⊢
    clear h hh F
    go_enter Tryz.func36, Tryz.ntmps36
    go_wp2_with (go_at_call 58; refine cR.out.mono ?_; rintro e w2 ⟨rfl, hb2⟩)
    go_ret
    exact ⟨rfl, hb2⟩
  | some c =>
    simp only [optP] at cR ⊢
    obtain ⟨n, hf, hn, rfl⟩ := (hh c rfl).find h.forest.apart
    have hw : whoN N n.blk k = aGet n.ws k := by unfold whoN; rw [hf]; rfl
    rw [hw]
    clear hh h hf hw
    go_enter Tryz.func36, Tryz.ntmps36
    go_wp2_with (go_at_call 58; refine cR.out.mono ?_; rintro e w2 ⟨rfl, hb2⟩; have k1 := ((F.out _ hb2).at_ n hn).cells.2; have lk := ((F.out _ hb2).at_ n hn).lookWho k; replace hb2 := Lib.hid hb2)
    go_ret
    exact ⟨rfl, hb2.out⟩

theorem known_any (k : Nat) (w : World) (hk : k < 8) : Calls Tryz.prog 30 #[.int .i64 k] w fun e w' => e = .returned (.bool true) ∧ w = w' := by
  have h0 : (0 : Int) ≤ k := by omega
  have h1 : (k : Int) < 8 := by omega
  go_enter Tryz.func30, Tryz.ntmps30
  go_wp2_with fail
  go_ret
  exact ⟨rfl, rfl⟩

end Go.Proofs.YtldagaliddgdjaaGreatDoor
