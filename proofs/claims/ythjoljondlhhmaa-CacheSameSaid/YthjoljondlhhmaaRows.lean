/-
  No cell of these rows narrows 'for every input' (looked for: loops, veiled, ifaces, maps, wideKeys, modest, calm, conditions, laid).
  DERIVED. THE GIVEN ROWS OF THIS SEAT. 4 by the template 'for every input the law returns true; each argument reads behind the call as it read before'; 0 by the template 'total and deterministic' (their statements: YthjoljondlhhmaaTotals.lean).
  GIVEN WITH THE SEED: the statements are not yours to turn. If you find one false, say at which input.
  Laid BY PROGRAM, IN A SANDBOX (cutbox-rows.mjs): the forced cells as the released guide's own fill.sh prints them over the translation 3f14a21bc2b96188… (all of the seat's roots in one cut). By AI agents, Wed Nov 11 2026. No macro, syntax, notation, axiom, sorry.
-/
import Derived.Test.YthjoljondlhhmaaChecked
import GoSem.Claim
import GoSem.ClaimJoined
import GoSem.ClaimMapViews
import Derived.JoinedTies
import Derived.KernelRfl
namespace Go.Proofs.Ythjoljondlhhmaa
/- THE CELL 'sum', in the pinned program and in every row, IS THE sha256 OF THE DUMP (.gsa) THAT YthjoljondlhhmaaProg.lean LOADS. Nothing in Lean hashes anything: it is a label: what it is worth is what the hold of that sum in a sandbox is worth. -/
noncomputable def Try.pinned : Pinned := { name := "ythjoljondlhhmaa", sum := "3f14a21bc2b9618891652b856e1b4b81a62cd363b6aa321dab354340f71ea730", checked := Try.checked }
namespace Rows
def none {H : Type} : Left H := { results := [], args := [] }

/-- 'ninepinlaw21.CacheCarry': WHATEVER THE INPUT: true; the input reads as it did. -/
def cacheCarrySpec : ChangeSpec := { name := "cacheCarry", fn := fun _ => fun
  | [d1, d2, d3, d4] => { results := [.lit (.bool true)], args := [d1, d2, d3, d4] }
  | _ => none }
def cacheCarryRow : OpenClaim := { program := "ythjoljondlhhmaa", sum := "3f14a21bc2b9618891652b856e1b4b81a62cd363b6aa321dab354340f71ea730", func := "ninepin/ninepinlaw21.CacheCarry", spec := "cacheCarry", unfollowed := true, recurses := true, plainKeys := false, apart := false }
def CacheCarrySaid : Prop := cacheCarryRow.holds Try.pinned (OpenSpec.ofChange cacheCarrySpec)

/-- ITS FALSE NEIGHBOUR: 'it returns false'. Refute it at one input. -/
def cacheCarryWrong : ChangeSpec := { name := "cacheCarry", fn := fun _ => fun
  | [d1, d2, d3, d4] => { results := [.lit (.bool false)], args := [d1, d2, d3, d4] }
  | _ => none }
def CacheCarryWrongFalsely : Prop := cacheCarryRow.holds Try.pinned (OpenSpec.ofChange cacheCarryWrong)

/-- 'ninepinlaw21.CacheSame': WHATEVER THE INPUT: true; the input reads as it did. -/
def cacheSameSpec : ChangeSpec := { name := "cacheSame", fn := fun _ => fun
  | [d1, d2, d3] => { results := [.lit (.bool true)], args := [d1, d2, d3] }
  | _ => none }
def cacheSameRow : OpenClaim := { program := "ythjoljondlhhmaa", sum := "3f14a21bc2b9618891652b856e1b4b81a62cd363b6aa321dab354340f71ea730", func := "ninepin/ninepinlaw21.CacheSame", spec := "cacheSame", unfollowed := true, recurses := true, plainKeys := false, apart := false }
def CacheSameSaid : Prop := cacheSameRow.holds Try.pinned (OpenSpec.ofChange cacheSameSpec)

/-- ITS FALSE NEIGHBOUR: 'it returns false'. Refute it at one input. -/
def cacheSameWrong : ChangeSpec := { name := "cacheSame", fn := fun _ => fun
  | [d1, d2, d3] => { results := [.lit (.bool false)], args := [d1, d2, d3] }
  | _ => none }
def CacheSameWrongFalsely : Prop := cacheSameRow.holds Try.pinned (OpenSpec.ofChange cacheSameWrong)

/-- 'ninepinlaw21.CacheWithout': WHATEVER THE INPUT: true; the input reads as it did. -/
def cacheWithoutSpec : ChangeSpec := { name := "cacheWithout", fn := fun _ => fun
  | [d1, d2] => { results := [.lit (.bool true)], args := [d1, d2] }
  | _ => none }
def cacheWithoutRow : OpenClaim := { program := "ythjoljondlhhmaa", sum := "3f14a21bc2b9618891652b856e1b4b81a62cd363b6aa321dab354340f71ea730", func := "ninepin/ninepinlaw21.CacheWithout", spec := "cacheWithout", unfollowed := true, recurses := true, plainKeys := false, apart := false }
def CacheWithoutSaid : Prop := cacheWithoutRow.holds Try.pinned (OpenSpec.ofChange cacheWithoutSpec)

/-- ITS FALSE NEIGHBOUR: 'it returns false'. Refute it at one input. -/
def cacheWithoutWrong : ChangeSpec := { name := "cacheWithout", fn := fun _ => fun
  | [d1, d2] => { results := [.lit (.bool false)], args := [d1, d2] }
  | _ => none }
def CacheWithoutWrongFalsely : Prop := cacheWithoutRow.holds Try.pinned (OpenSpec.ofChange cacheWithoutWrong)

/-- 'ninepinlaw21.CacheBodies': WHATEVER THE INPUT: true; the input reads as it did. -/
def cacheBodiesSpec : ChangeSpec := { name := "cacheBodies", fn := fun _ => fun
  | [d1, d2, d3] => { results := [.lit (.bool true)], args := [d1, d2, d3] }
  | _ => none }
def cacheBodiesRow : OpenClaim := { program := "ythjoljondlhhmaa", sum := "3f14a21bc2b9618891652b856e1b4b81a62cd363b6aa321dab354340f71ea730", func := "ninepin/ninepinlaw21.CacheBodies", spec := "cacheBodies", unfollowed := true, recurses := true, plainKeys := false, apart := false }
def CacheBodiesSaid : Prop := cacheBodiesRow.holds Try.pinned (OpenSpec.ofChange cacheBodiesSpec)

/-- ITS FALSE NEIGHBOUR: 'it returns false'. Refute it at one input. -/
def cacheBodiesWrong : ChangeSpec := { name := "cacheBodies", fn := fun _ => fun
  | [d1, d2, d3] => { results := [.lit (.bool false)], args := [d1, d2, d3] }
  | _ => none }
def CacheBodiesWrongFalsely : Prop := cacheBodiesRow.holds Try.pinned (OpenSpec.ofChange cacheBodiesWrong)

/- THE SECOND FORM. 'bulk': how many values and letters a reading holds, each counted each time it is reached (what is shared counts as often as it is met; a slice's spare places count too). A statement '..UptoSaid' is the law's where the arguments, and the package variables that the reading takes, are together of bulk at most 1048576: NARROWER than '..Said'. Prove '..Said' where nothing that the law and all that it calls make is longer than what came in: it says more and counts as full. Else prove '..UptoSaid'. A law counts once. -/
mutual
def uptoBulk {H : Type} : DataW H → Nat
  | .lit (.string bytes) => bytes.length + 1
  | .lit _ => 1
  | .nil => 1
  | .ptr d => uptoBulk d + 1
  | .slice elems spare => uptoBulkAll elems + uptoBulkAll spare + 1
  | .agg parts => uptoBulkAll parts + 1
  | .iface _ d => uptoBulk d + 1
  | .map entries => uptoBulkEntries entries + 1
  | .held _ => 1
def uptoBulkAll {H : Type} : List (DataW H) → Nat
  | [] => 0
  | d :: r => uptoBulk d + uptoBulkAll r
def uptoBulkEntries {H : Type} : List (Lit × DataW H) → Nat
  | [] => 0
  | x :: r => uptoBulkEntry x + uptoBulkEntries r
def uptoBulkEntry {H : Type} : Lit × DataW H → Nat
  | (.string bytes, d) => bytes.length + uptoBulk d + 1
  | (_, d) => uptoBulk d + 1
 end
def uptoSmall : (H : Type) → List (DataW H) → Bool := fun _ ds => decide (uptoBulkAll ds ≤ 1048576)
def OpenSpec.upto (s : _root_.Go.ChangeSpec) : _root_.Go.OpenSpec := { _root_.Go.OpenSpec.ofChange s with cond := some uptoSmall }

/-- 'ninepinlaw21.CacheCarry', WHERE WHAT IT READS IS OF BULK AT MOST 1048576: true; the input reads as it did. -/
def cacheCarryUptoRow : OpenClaim := { program := "ythjoljondlhhmaa", sum := "3f14a21bc2b9618891652b856e1b4b81a62cd363b6aa321dab354340f71ea730", func := "ninepin/ninepinlaw21.CacheCarry", spec := "cacheCarry", unfollowed := true, recurses := true, plainKeys := false, apart := false, narrowed := true }
def CacheCarryUptoSaid : Prop := cacheCarryUptoRow.holds Try.pinned (OpenSpec.upto cacheCarrySpec)

/-- 'ninepinlaw21.CacheSame', WHERE WHAT IT READS IS OF BULK AT MOST 1048576: true; the input reads as it did. -/
def cacheSameUptoRow : OpenClaim := { program := "ythjoljondlhhmaa", sum := "3f14a21bc2b9618891652b856e1b4b81a62cd363b6aa321dab354340f71ea730", func := "ninepin/ninepinlaw21.CacheSame", spec := "cacheSame", unfollowed := true, recurses := true, plainKeys := false, apart := false, narrowed := true }
def CacheSameUptoSaid : Prop := cacheSameUptoRow.holds Try.pinned (OpenSpec.upto cacheSameSpec)

/-- 'ninepinlaw21.CacheWithout', WHERE WHAT IT READS IS OF BULK AT MOST 1048576: true; the input reads as it did. -/
def cacheWithoutUptoRow : OpenClaim := { program := "ythjoljondlhhmaa", sum := "3f14a21bc2b9618891652b856e1b4b81a62cd363b6aa321dab354340f71ea730", func := "ninepin/ninepinlaw21.CacheWithout", spec := "cacheWithout", unfollowed := true, recurses := true, plainKeys := false, apart := false, narrowed := true }
def CacheWithoutUptoSaid : Prop := cacheWithoutUptoRow.holds Try.pinned (OpenSpec.upto cacheWithoutSpec)

/-- 'ninepinlaw21.CacheBodies', WHERE WHAT IT READS IS OF BULK AT MOST 1048576: true; the input reads as it did. -/
def cacheBodiesUptoRow : OpenClaim := { program := "ythjoljondlhhmaa", sum := "3f14a21bc2b9618891652b856e1b4b81a62cd363b6aa321dab354340f71ea730", func := "ninepin/ninepinlaw21.CacheBodies", spec := "cacheBodies", unfollowed := true, recurses := true, plainKeys := false, apart := false, narrowed := true }
def CacheBodiesUptoSaid : Prop := cacheBodiesUptoRow.holds Try.pinned (OpenSpec.upto cacheBodiesSpec)

end Rows
end Go.Proofs.Ythjoljondlhhmaa
