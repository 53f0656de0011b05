/-
  No cell of these rows narrows 'for every input' (looked for: loops, veiled, ifaces, maps, wideKeys, modest, calm, conditions, laid).
  DERIVED. THE GIVEN ROWS OF THIS SEAT. 14 by the template 'for every input the law returns true; each argument reads behind the call as it read before'; 0 by the template 'total and deterministic' (their statements: YtghdhfnhjfnggaaTotals.lean).
  GIVEN WITH THE SEED: the statements are not yours to turn. If you find one false, say at which input.
  Laid BY PROGRAM, IN A SANDBOX (cutbox-rows.mjs): the forced cells as the released guide's own fill.sh prints them over the translation dc30e82808e757d5… (all of the seat's roots in one cut). By AI agents, Wed Nov 11 2026. No macro, syntax, notation, axiom, sorry.
-/
import Derived.Test.YtghdhfnhjfnggaaChecked
import GoSem.Claim
import GoSem.ClaimJoined
import GoSem.ClaimMapViews
import Derived.JoinedTies
import Derived.KernelRfl
namespace Go.Proofs.Ytghdhfnhjfnggaa
/- THE CELL 'sum', in the pinned program and in every row, IS THE sha256 OF THE DUMP (.gsa) THAT YtghdhfnhjfnggaaProg.lean LOADS. Nothing in Lean hashes anything: it is a label: what it is worth is what the hold of that sum in a sandbox is worth. -/
noncomputable def Try.pinned : Pinned := { name := "ytghdhfnhjfnggaa", sum := "dc30e82808e757d5b41b50151bd9cfb63a361ff09e29f2fa9b9159fd7ce55ebc", checked := Try.checked }
namespace Rows
def none {H : Type} : Left H := { results := [], args := [] }

/-- 'laws.FnExactSameSite': WHATEVER THE INPUT: true; the input reads as it did. -/
def fnExactSameSiteSpec : ChangeSpec := { name := "fnExactSameSite", fn := fun _ => fun
  | [d1, d2] => { results := [.lit (.bool true)], args := [d1, d2] }
  | _ => none }
def fnExactSameSiteRow : OpenClaim := { program := "ytghdhfnhjfnggaa", sum := "dc30e82808e757d5b41b50151bd9cfb63a361ff09e29f2fa9b9159fd7ce55ebc", func := "loop.example/g01042/laws.FnExactSameSite", spec := "fnExactSameSite", apart := false }
def FnExactSameSiteSaid : Prop := fnExactSameSiteRow.holds Try.pinned (OpenSpec.ofChange fnExactSameSiteSpec)

/-- ITS FALSE NEIGHBOUR: 'it returns false'. Refute it at one input. -/
def fnExactSameSiteWrong : ChangeSpec := { name := "fnExactSameSite", fn := fun _ => fun
  | [d1, d2] => { results := [.lit (.bool false)], args := [d1, d2] }
  | _ => none }
def FnExactSameSiteWrongFalsely : Prop := fnExactSameSiteRow.holds Try.pinned (OpenSpec.ofChange fnExactSameSiteWrong)

/-- 'laws.FnExactValidSite': WHATEVER THE INPUT: true; the input reads as it did. -/
def fnExactValidSiteSpec : ChangeSpec := { name := "fnExactValidSite", fn := fun _ => fun
  | [d] => { results := [.lit (.bool true)], args := [d] }
  | _ => none }
def fnExactValidSiteRow : OpenClaim := { program := "ytghdhfnhjfnggaa", sum := "dc30e82808e757d5b41b50151bd9cfb63a361ff09e29f2fa9b9159fd7ce55ebc", func := "loop.example/g01042/laws.FnExactValidSite", spec := "fnExactValidSite", inPlace := ["internal/bytealg.IndexByteString"], unfollowed := true, recurses := true, apart := false }
def FnExactValidSiteSaid : Prop := fnExactValidSiteRow.holds Try.pinned (OpenSpec.ofChange fnExactValidSiteSpec)

/-- ITS FALSE NEIGHBOUR: 'it returns false'. Refute it at one input. -/
def fnExactValidSiteWrong : ChangeSpec := { name := "fnExactValidSite", fn := fun _ => fun
  | [d] => { results := [.lit (.bool false)], args := [d] }
  | _ => none }
def FnExactValidSiteWrongFalsely : Prop := fnExactValidSiteRow.holds Try.pinned (OpenSpec.ofChange fnExactValidSiteWrong)

/-- 'laws.FnExactSiteText': WHATEVER THE INPUT: true; the input reads as it did. -/
def fnExactSiteTextSpec : ChangeSpec := { name := "fnExactSiteText", fn := fun _ => fun
  | [d] => { results := [.lit (.bool true)], args := [d] }
  | _ => none }
def fnExactSiteTextRow : OpenClaim := { program := "ytghdhfnhjfnggaa", sum := "dc30e82808e757d5b41b50151bd9cfb63a361ff09e29f2fa9b9159fd7ce55ebc", func := "loop.example/g01042/laws.FnExactSiteText", spec := "fnExactSiteText", inPlace := ["internal/bytealg.IndexByteString"], unfollowed := true, recurses := true, apart := false }
def FnExactSiteTextSaid : Prop := fnExactSiteTextRow.holds Try.pinned (OpenSpec.ofChange fnExactSiteTextSpec)

/-- ITS FALSE NEIGHBOUR: 'it returns false'. Refute it at one input. -/
def fnExactSiteTextWrong : ChangeSpec := { name := "fnExactSiteText", fn := fun _ => fun
  | [d] => { results := [.lit (.bool false)], args := [d] }
  | _ => none }
def FnExactSiteTextWrongFalsely : Prop := fnExactSiteTextRow.holds Try.pinned (OpenSpec.ofChange fnExactSiteTextWrong)

/-- 'laws.FnExactHoursOn': WHATEVER THE INPUT: true; the input reads as it did. -/
def fnExactHoursOnSpec : ChangeSpec := { name := "fnExactHoursOn", fn := fun _ => fun
  | [d1, d2] => { results := [.lit (.bool true)], args := [d1, d2] }
  | _ => none }
def fnExactHoursOnRow : OpenClaim := { program := "ytghdhfnhjfnggaa", sum := "dc30e82808e757d5b41b50151bd9cfb63a361ff09e29f2fa9b9159fd7ce55ebc", func := "loop.example/g01042/laws.FnExactHoursOn", spec := "fnExactHoursOn", inPlace := ["internal/bytealg.IndexByteString"], unfollowed := true, recurses := true, apart := false }
def FnExactHoursOnSaid : Prop := fnExactHoursOnRow.holds Try.pinned (OpenSpec.ofChange fnExactHoursOnSpec)

/-- ITS FALSE NEIGHBOUR: 'it returns false'. Refute it at one input. -/
def fnExactHoursOnWrong : ChangeSpec := { name := "fnExactHoursOn", fn := fun _ => fun
  | [d1, d2] => { results := [.lit (.bool false)], args := [d1, d2] }
  | _ => none }
def FnExactHoursOnWrongFalsely : Prop := fnExactHoursOnRow.holds Try.pinned (OpenSpec.ofChange fnExactHoursOnWrong)

/-- 'laws.FnExactChangeWeather': WHATEVER THE INPUT: true; the input reads as it did. -/
def fnExactChangeWeatherSpec : ChangeSpec := { name := "fnExactChangeWeather", fn := fun _ => fun
  | [d1, d2, d3] => { results := [.lit (.bool true)], args := [d1, d2, d3] }
  | _ => none }
def fnExactChangeWeatherRow : OpenClaim := { program := "ytghdhfnhjfnggaa", sum := "dc30e82808e757d5b41b50151bd9cfb63a361ff09e29f2fa9b9159fd7ce55ebc", func := "loop.example/g01042/laws.FnExactChangeWeather", spec := "fnExactChangeWeather", inPlace := ["internal/bytealg.IndexByteString"], unfollowed := true, recurses := true, apart := false }
def FnExactChangeWeatherSaid : Prop := fnExactChangeWeatherRow.holds Try.pinned (OpenSpec.ofChange fnExactChangeWeatherSpec)

/-- ITS FALSE NEIGHBOUR: 'it returns false'. Refute it at one input. -/
def fnExactChangeWeatherWrong : ChangeSpec := { name := "fnExactChangeWeather", fn := fun _ => fun
  | [d1, d2, d3] => { results := [.lit (.bool false)], args := [d1, d2, d3] }
  | _ => none }
def FnExactChangeWeatherWrongFalsely : Prop := fnExactChangeWeatherRow.holds Try.pinned (OpenSpec.ofChange fnExactChangeWeatherWrong)

/-- 'laws.FnExactLongestStop': WHATEVER THE INPUT: true; the input reads as it did. -/
def fnExactLongestStopSpec : ChangeSpec := { name := "fnExactLongestStop", fn := fun _ => fun
  | [d] => { results := [.lit (.bool true)], args := [d] }
  | _ => none }
def fnExactLongestStopRow : OpenClaim := { program := "ytghdhfnhjfnggaa", sum := "dc30e82808e757d5b41b50151bd9cfb63a361ff09e29f2fa9b9159fd7ce55ebc", func := "loop.example/g01042/laws.FnExactLongestStop", spec := "fnExactLongestStop", inPlace := ["internal/bytealg.IndexByteString"], unfollowed := true, recurses := true, apart := false }
def FnExactLongestStopSaid : Prop := fnExactLongestStopRow.holds Try.pinned (OpenSpec.ofChange fnExactLongestStopSpec)

/-- ITS FALSE NEIGHBOUR: 'it returns false'. Refute it at one input. -/
def fnExactLongestStopWrong : ChangeSpec := { name := "fnExactLongestStop", fn := fun _ => fun
  | [d] => { results := [.lit (.bool false)], args := [d] }
  | _ => none }
def FnExactLongestStopWrongFalsely : Prop := fnExactLongestStopRow.holds Try.pinned (OpenSpec.ofChange fnExactLongestStopWrong)

/-- 'laws.FnExactHoursIn': WHATEVER THE INPUT: true; the input reads as it did. -/
def fnExactHoursInSpec : ChangeSpec := { name := "fnExactHoursIn", fn := fun _ => fun
  | [d1, d2, d3] => { results := [.lit (.bool true)], args := [d1, d2, d3] }
  | _ => none }
def fnExactHoursInRow : OpenClaim := { program := "ytghdhfnhjfnggaa", sum := "dc30e82808e757d5b41b50151bd9cfb63a361ff09e29f2fa9b9159fd7ce55ebc", func := "loop.example/g01042/laws.FnExactHoursIn", spec := "fnExactHoursIn", inPlace := ["internal/bytealg.IndexByteString"], unfollowed := true, recurses := true, apart := false }
def FnExactHoursInSaid : Prop := fnExactHoursInRow.holds Try.pinned (OpenSpec.ofChange fnExactHoursInSpec)

/-- ITS FALSE NEIGHBOUR: 'it returns false'. Refute it at one input. -/
def fnExactHoursInWrong : ChangeSpec := { name := "fnExactHoursIn", fn := fun _ => fun
  | [d1, d2, d3] => { results := [.lit (.bool false)], args := [d1, d2, d3] }
  | _ => none }
def FnExactHoursInWrongFalsely : Prop := fnExactHoursInRow.holds Try.pinned (OpenSpec.ofChange fnExactHoursInWrong)

/-- 'laws.FnExactLostDays': WHATEVER THE INPUT: true; the input reads as it did. -/
def fnExactLostDaysSpec : ChangeSpec := { name := "fnExactLostDays", fn := fun _ => fun
  | [d] => { results := [.lit (.bool true)], args := [d] }
  | _ => none }
def fnExactLostDaysRow : OpenClaim := { program := "ytghdhfnhjfnggaa", sum := "dc30e82808e757d5b41b50151bd9cfb63a361ff09e29f2fa9b9159fd7ce55ebc", func := "loop.example/g01042/laws.FnExactLostDays", spec := "fnExactLostDays", inPlace := ["internal/bytealg.IndexByteString"], unfollowed := true, recurses := true, apart := false }
def FnExactLostDaysSaid : Prop := fnExactLostDaysRow.holds Try.pinned (OpenSpec.ofChange fnExactLostDaysSpec)

/-- ITS FALSE NEIGHBOUR: 'it returns false'. Refute it at one input. -/
def fnExactLostDaysWrong : ChangeSpec := { name := "fnExactLostDays", fn := fun _ => fun
  | [d] => { results := [.lit (.bool false)], args := [d] }
  | _ => none }
def FnExactLostDaysWrongFalsely : Prop := fnExactLostDaysRow.holds Try.pinned (OpenSpec.ofChange fnExactLostDaysWrong)

/-- 'laws.FnExactDayAfter': WHATEVER THE INPUT: true; the input reads as it did. -/
def fnExactDayAfterSpec : ChangeSpec := { name := "fnExactDayAfter", fn := fun _ => fun
  | [d1, d2, d3] => { results := [.lit (.bool true)], args := [d1, d2, d3] }
  | _ => none }
def fnExactDayAfterRow : OpenClaim := { program := "ytghdhfnhjfnggaa", sum := "dc30e82808e757d5b41b50151bd9cfb63a361ff09e29f2fa9b9159fd7ce55ebc", func := "loop.example/g01042/laws.FnExactDayAfter", spec := "fnExactDayAfter", inPlace := ["internal/bytealg.IndexByteString"], unfollowed := true, recurses := true, apart := false }
def FnExactDayAfterSaid : Prop := fnExactDayAfterRow.holds Try.pinned (OpenSpec.ofChange fnExactDayAfterSpec)

/-- ITS FALSE NEIGHBOUR: 'it returns false'. Refute it at one input. -/
def fnExactDayAfterWrong : ChangeSpec := { name := "fnExactDayAfter", fn := fun _ => fun
  | [d1, d2, d3] => { results := [.lit (.bool false)], args := [d1, d2, d3] }
  | _ => none }
def FnExactDayAfterWrongFalsely : Prop := fnExactDayAfterRow.holds Try.pinned (OpenSpec.ofChange fnExactDayAfterWrong)

/-- 'laws.FnExactFrostRisk': WHATEVER THE INPUT: true; the input reads as it did. -/
def fnExactFrostRiskSpec : ChangeSpec := { name := "fnExactFrostRisk", fn := fun _ => fun
  | [d1, d2, d3] => { results := [.lit (.bool true)], args := [d1, d2, d3] }
  | _ => none }
def fnExactFrostRiskRow : OpenClaim := { program := "ytghdhfnhjfnggaa", sum := "dc30e82808e757d5b41b50151bd9cfb63a361ff09e29f2fa9b9159fd7ce55ebc", func := "loop.example/g01042/laws.FnExactFrostRisk", spec := "fnExactFrostRisk", inPlace := ["internal/bytealg.IndexByteString", "internal/bytealg.IndexString"], unfollowed := true, recurses := true, named := ["internal/bytealg.MaxLen"], apart := false }
def FnExactFrostRiskSaid : Prop := fnExactFrostRiskRow.holds Try.pinned (OpenSpec.ofChange fnExactFrostRiskSpec)

/-- ITS FALSE NEIGHBOUR: 'it returns false'. Refute it at one input. -/
def fnExactFrostRiskWrong : ChangeSpec := { name := "fnExactFrostRisk", fn := fun _ => fun
  | [d1, d2, d3] => { results := [.lit (.bool false)], args := [d1, d2, d3] }
  | _ => none }
def FnExactFrostRiskWrongFalsely : Prop := fnExactFrostRiskRow.holds Try.pinned (OpenSpec.ofChange fnExactFrostRiskWrong)

/-- 'laws.FnExactSafeDays': WHATEVER THE INPUT: true; the input reads as it did. -/
def fnExactSafeDaysSpec : ChangeSpec := { name := "fnExactSafeDays", fn := fun _ => fun
  | [d1, d2] => { results := [.lit (.bool true)], args := [d1, d2] }
  | _ => none }
def fnExactSafeDaysRow : OpenClaim := { program := "ytghdhfnhjfnggaa", sum := "dc30e82808e757d5b41b50151bd9cfb63a361ff09e29f2fa9b9159fd7ce55ebc", func := "loop.example/g01042/laws.FnExactSafeDays", spec := "fnExactSafeDays", inPlace := ["internal/bytealg.IndexByteString", "internal/bytealg.IndexString"], unfollowed := true, recurses := true, named := ["internal/bytealg.MaxLen"], apart := false }
def FnExactSafeDaysSaid : Prop := fnExactSafeDaysRow.holds Try.pinned (OpenSpec.ofChange fnExactSafeDaysSpec)

/-- ITS FALSE NEIGHBOUR: 'it returns false'. Refute it at one input. -/
def fnExactSafeDaysWrong : ChangeSpec := { name := "fnExactSafeDays", fn := fun _ => fun
  | [d1, d2] => { results := [.lit (.bool false)], args := [d1, d2] }
  | _ => none }
def FnExactSafeDaysWrongFalsely : Prop := fnExactSafeDaysRow.holds Try.pinned (OpenSpec.ofChange fnExactSafeDaysWrong)

/-- 'laws.FnExactPlanLaying': WHATEVER THE INPUT: true; the input reads as it did. -/
def fnExactPlanLayingSpec : ChangeSpec := { name := "fnExactPlanLaying", fn := fun _ => fun
  | [d1, d2, d3, d4] => { results := [.lit (.bool true)], args := [d1, d2, d3, d4] }
  | _ => none }
def fnExactPlanLayingRow : OpenClaim := { program := "ytghdhfnhjfnggaa", sum := "dc30e82808e757d5b41b50151bd9cfb63a361ff09e29f2fa9b9159fd7ce55ebc", func := "loop.example/g01042/laws.FnExactPlanLaying", spec := "fnExactPlanLaying", inPlace := ["internal/bytealg.IndexByteString", "internal/bytealg.IndexString"], unfollowed := true, recurses := true, named := ["internal/bytealg.MaxLen"], apart := false }
def FnExactPlanLayingSaid : Prop := fnExactPlanLayingRow.holds Try.pinned (OpenSpec.ofChange fnExactPlanLayingSpec)

/-- ITS FALSE NEIGHBOUR: 'it returns false'. Refute it at one input. -/
def fnExactPlanLayingWrong : ChangeSpec := { name := "fnExactPlanLaying", fn := fun _ => fun
  | [d1, d2, d3, d4] => { results := [.lit (.bool false)], args := [d1, d2, d3, d4] }
  | _ => none }
def FnExactPlanLayingWrongFalsely : Prop := fnExactPlanLayingRow.holds Try.pinned (OpenSpec.ofChange fnExactPlanLayingWrong)

/-- 'laws.FnSites': WHATEVER THE INPUT: true; the input reads as it did. -/
def fnSitesSpec : ChangeSpec := { name := "fnSites", fn := fun _ => fun
  | [d] => { results := [.lit (.bool true)], args := [d] }
  | _ => none }
def fnSitesRow : OpenClaim := { program := "ytghdhfnhjfnggaa", sum := "dc30e82808e757d5b41b50151bd9cfb63a361ff09e29f2fa9b9159fd7ce55ebc", func := "loop.example/g01042/laws.FnSites", spec := "fnSites", inPlace := ["internal/bytealg.IndexByteString"], unfollowed := true, recurses := true, apart := false }
def FnSitesSaid : Prop := fnSitesRow.holds Try.pinned (OpenSpec.ofChange fnSitesSpec)

/-- ITS FALSE NEIGHBOUR: 'it returns false'. Refute it at one input. -/
def fnSitesWrong : ChangeSpec := { name := "fnSites", fn := fun _ => fun
  | [d] => { results := [.lit (.bool false)], args := [d] }
  | _ => none }
def FnSitesWrongFalsely : Prop := fnSitesRow.holds Try.pinned (OpenSpec.ofChange fnSitesWrong)

/-- 'laws.FnLaying': WHATEVER THE INPUT: true; the input reads as it did. -/
def fnLayingSpec : ChangeSpec := { name := "fnLaying", fn := fun _ => fun
  | [d] => { results := [.lit (.bool true)], args := [d] }
  | _ => none }
def fnLayingRow : OpenClaim := { program := "ytghdhfnhjfnggaa", sum := "dc30e82808e757d5b41b50151bd9cfb63a361ff09e29f2fa9b9159fd7ce55ebc", func := "loop.example/g01042/laws.FnLaying", spec := "fnLaying", inPlace := ["internal/bytealg.IndexByteString", "internal/bytealg.IndexString"], unfollowed := true, recurses := true, named := ["internal/bytealg.MaxLen"], apart := false }
def FnLayingSaid : Prop := fnLayingRow.holds Try.pinned (OpenSpec.ofChange fnLayingSpec)

/-- ITS FALSE NEIGHBOUR: 'it returns false'. Refute it at one input. -/
def fnLayingWrong : ChangeSpec := { name := "fnLaying", fn := fun _ => fun
  | [d] => { results := [.lit (.bool false)], args := [d] }
  | _ => none }
def FnLayingWrongFalsely : Prop := fnLayingRow.holds Try.pinned (OpenSpec.ofChange fnLayingWrong)

/- THE SECOND FORM. 'bulk': how many values and letters a reading holds, each counted each time it is reached (what is shared counts as often as it is met; a slice's spare places count too). A statement '..UptoSaid' is the law's where the arguments, and the package variables that the reading takes, are together of bulk at most 1048576: NARROWER than '..Said'. Prove '..Said' where nothing that the law and all that it calls make is longer than what came in: it says more and counts as full. Else prove '..UptoSaid'. A law counts once. -/
mutual
def uptoBulk {H : Type} : DataW H → Nat
  | .lit (.string bytes) => bytes.length + 1
  | .lit _ => 1
  | .nil => 1
  | .ptr d => uptoBulk d + 1
  | .slice elems spare => uptoBulkAll elems + uptoBulkAll spare + 1
  | .agg parts => uptoBulkAll parts + 1
  | .iface _ d => uptoBulk d + 1
  | .map entries => uptoBulkEntries entries + 1
  | .held _ => 1
def uptoBulkAll {H : Type} : List (DataW H) → Nat
  | [] => 0
  | d :: r => uptoBulk d + uptoBulkAll r
def uptoBulkEntries {H : Type} : List (Lit × DataW H) → Nat
  | [] => 0
  | x :: r => uptoBulkEntry x + uptoBulkEntries r
def uptoBulkEntry {H : Type} : Lit × DataW H → Nat
  | (.string bytes, d) => bytes.length + uptoBulk d + 1
  | (_, d) => uptoBulk d + 1
 end
def uptoSmall : (H : Type) → List (DataW H) → Bool := fun _ ds => decide (uptoBulkAll ds ≤ 1048576)
def OpenSpec.upto (s : _root_.Go.ChangeSpec) : _root_.Go.OpenSpec := { _root_.Go.OpenSpec.ofChange s with cond := some uptoSmall }

/-- 'laws.FnExactSameSite', WHERE WHAT IT READS IS OF BULK AT MOST 1048576: true; the input reads as it did. -/
def fnExactSameSiteUptoRow : OpenClaim := { program := "ytghdhfnhjfnggaa", sum := "dc30e82808e757d5b41b50151bd9cfb63a361ff09e29f2fa9b9159fd7ce55ebc", func := "loop.example/g01042/laws.FnExactSameSite", spec := "fnExactSameSite", apart := false, narrowed := true }
def FnExactSameSiteUptoSaid : Prop := fnExactSameSiteUptoRow.holds Try.pinned (OpenSpec.upto fnExactSameSiteSpec)

/-- 'laws.FnExactValidSite', WHERE WHAT IT READS IS OF BULK AT MOST 1048576: true; the input reads as it did. -/
def fnExactValidSiteUptoRow : OpenClaim := { program := "ytghdhfnhjfnggaa", sum := "dc30e82808e757d5b41b50151bd9cfb63a361ff09e29f2fa9b9159fd7ce55ebc", func := "loop.example/g01042/laws.FnExactValidSite", spec := "fnExactValidSite", inPlace := ["internal/bytealg.IndexByteString"], unfollowed := true, recurses := true, apart := false, narrowed := true }
def FnExactValidSiteUptoSaid : Prop := fnExactValidSiteUptoRow.holds Try.pinned (OpenSpec.upto fnExactValidSiteSpec)

/-- 'laws.FnExactSiteText', WHERE WHAT IT READS IS OF BULK AT MOST 1048576: true; the input reads as it did. -/
def fnExactSiteTextUptoRow : OpenClaim := { program := "ytghdhfnhjfnggaa", sum := "dc30e82808e757d5b41b50151bd9cfb63a361ff09e29f2fa9b9159fd7ce55ebc", func := "loop.example/g01042/laws.FnExactSiteText", spec := "fnExactSiteText", inPlace := ["internal/bytealg.IndexByteString"], unfollowed := true, recurses := true, apart := false, narrowed := true }
def FnExactSiteTextUptoSaid : Prop := fnExactSiteTextUptoRow.holds Try.pinned (OpenSpec.upto fnExactSiteTextSpec)

/-- 'laws.FnExactHoursOn', WHERE WHAT IT READS IS OF BULK AT MOST 1048576: true; the input reads as it did. -/
def fnExactHoursOnUptoRow : OpenClaim := { program := "ytghdhfnhjfnggaa", sum := "dc30e82808e757d5b41b50151bd9cfb63a361ff09e29f2fa9b9159fd7ce55ebc", func := "loop.example/g01042/laws.FnExactHoursOn", spec := "fnExactHoursOn", inPlace := ["internal/bytealg.IndexByteString"], unfollowed := true, recurses := true, apart := false, narrowed := true }
def FnExactHoursOnUptoSaid : Prop := fnExactHoursOnUptoRow.holds Try.pinned (OpenSpec.upto fnExactHoursOnSpec)

/-- 'laws.FnExactChangeWeather', WHERE WHAT IT READS IS OF BULK AT MOST 1048576: true; the input reads as it did. -/
def fnExactChangeWeatherUptoRow : OpenClaim := { program := "ytghdhfnhjfnggaa", sum := "dc30e82808e757d5b41b50151bd9cfb63a361ff09e29f2fa9b9159fd7ce55ebc", func := "loop.example/g01042/laws.FnExactChangeWeather", spec := "fnExactChangeWeather", inPlace := ["internal/bytealg.IndexByteString"], unfollowed := true, recurses := true, apart := false, narrowed := true }
def FnExactChangeWeatherUptoSaid : Prop := fnExactChangeWeatherUptoRow.holds Try.pinned (OpenSpec.upto fnExactChangeWeatherSpec)

/-- 'laws.FnExactLongestStop', WHERE WHAT IT READS IS OF BULK AT MOST 1048576: true; the input reads as it did. -/
def fnExactLongestStopUptoRow : OpenClaim := { program := "ytghdhfnhjfnggaa", sum := "dc30e82808e757d5b41b50151bd9cfb63a361ff09e29f2fa9b9159fd7ce55ebc", func := "loop.example/g01042/laws.FnExactLongestStop", spec := "fnExactLongestStop", inPlace := ["internal/bytealg.IndexByteString"], unfollowed := true, recurses := true, apart := false, narrowed := true }
def FnExactLongestStopUptoSaid : Prop := fnExactLongestStopUptoRow.holds Try.pinned (OpenSpec.upto fnExactLongestStopSpec)

/-- 'laws.FnExactHoursIn', WHERE WHAT IT READS IS OF BULK AT MOST 1048576: true; the input reads as it did. -/
def fnExactHoursInUptoRow : OpenClaim := { program := "ytghdhfnhjfnggaa", sum := "dc30e82808e757d5b41b50151bd9cfb63a361ff09e29f2fa9b9159fd7ce55ebc", func := "loop.example/g01042/laws.FnExactHoursIn", spec := "fnExactHoursIn", inPlace := ["internal/bytealg.IndexByteString"], unfollowed := true, recurses := true, apart := false, narrowed := true }
def FnExactHoursInUptoSaid : Prop := fnExactHoursInUptoRow.holds Try.pinned (OpenSpec.upto fnExactHoursInSpec)

/-- 'laws.FnExactLostDays', WHERE WHAT IT READS IS OF BULK AT MOST 1048576: true; the input reads as it did. -/
def fnExactLostDaysUptoRow : OpenClaim := { program := "ytghdhfnhjfnggaa", sum := "dc30e82808e757d5b41b50151bd9cfb63a361ff09e29f2fa9b9159fd7ce55ebc", func := "loop.example/g01042/laws.FnExactLostDays", spec := "fnExactLostDays", inPlace := ["internal/bytealg.IndexByteString"], unfollowed := true, recurses := true, apart := false, narrowed := true }
def FnExactLostDaysUptoSaid : Prop := fnExactLostDaysUptoRow.holds Try.pinned (OpenSpec.upto fnExactLostDaysSpec)

/-- 'laws.FnExactDayAfter', WHERE WHAT IT READS IS OF BULK AT MOST 1048576: true; the input reads as it did. -/
def fnExactDayAfterUptoRow : OpenClaim := { program := "ytghdhfnhjfnggaa", sum := "dc30e82808e757d5b41b50151bd9cfb63a361ff09e29f2fa9b9159fd7ce55ebc", func := "loop.example/g01042/laws.FnExactDayAfter", spec := "fnExactDayAfter", inPlace := ["internal/bytealg.IndexByteString"], unfollowed := true, recurses := true, apart := false, narrowed := true }
def FnExactDayAfterUptoSaid : Prop := fnExactDayAfterUptoRow.holds Try.pinned (OpenSpec.upto fnExactDayAfterSpec)

/-- 'laws.FnExactFrostRisk', WHERE WHAT IT READS IS OF BULK AT MOST 1048576: true; the input reads as it did. -/
def fnExactFrostRiskUptoRow : OpenClaim := { program := "ytghdhfnhjfnggaa", sum := "dc30e82808e757d5b41b50151bd9cfb63a361ff09e29f2fa9b9159fd7ce55ebc", func := "loop.example/g01042/laws.FnExactFrostRisk", spec := "fnExactFrostRisk", inPlace := ["internal/bytealg.IndexByteString", "internal/bytealg.IndexString"], unfollowed := true, recurses := true, named := ["internal/bytealg.MaxLen"], apart := false, narrowed := true }
def FnExactFrostRiskUptoSaid : Prop := fnExactFrostRiskUptoRow.holds Try.pinned (OpenSpec.upto fnExactFrostRiskSpec)

/-- 'laws.FnExactSafeDays', WHERE WHAT IT READS IS OF BULK AT MOST 1048576: true; the input reads as it did. -/
def fnExactSafeDaysUptoRow : OpenClaim := { program := "ytghdhfnhjfnggaa", sum := "dc30e82808e757d5b41b50151bd9cfb63a361ff09e29f2fa9b9159fd7ce55ebc", func := "loop.example/g01042/laws.FnExactSafeDays", spec := "fnExactSafeDays", inPlace := ["internal/bytealg.IndexByteString", "internal/bytealg.IndexString"], unfollowed := true, recurses := true, named := ["internal/bytealg.MaxLen"], apart := false, narrowed := true }
def FnExactSafeDaysUptoSaid : Prop := fnExactSafeDaysUptoRow.holds Try.pinned (OpenSpec.upto fnExactSafeDaysSpec)

/-- 'laws.FnExactPlanLaying', WHERE WHAT IT READS IS OF BULK AT MOST 1048576: true; the input reads as it did. -/
def fnExactPlanLayingUptoRow : OpenClaim := { program := "ytghdhfnhjfnggaa", sum := "dc30e82808e757d5b41b50151bd9cfb63a361ff09e29f2fa9b9159fd7ce55ebc", func := "loop.example/g01042/laws.FnExactPlanLaying", spec := "fnExactPlanLaying", inPlace := ["internal/bytealg.IndexByteString", "internal/bytealg.IndexString"], unfollowed := true, recurses := true, named := ["internal/bytealg.MaxLen"], apart := false, narrowed := true }
def FnExactPlanLayingUptoSaid : Prop := fnExactPlanLayingUptoRow.holds Try.pinned (OpenSpec.upto fnExactPlanLayingSpec)

/-- 'laws.FnSites', WHERE WHAT IT READS IS OF BULK AT MOST 1048576: true; the input reads as it did. -/
def fnSitesUptoRow : OpenClaim := { program := "ytghdhfnhjfnggaa", sum := "dc30e82808e757d5b41b50151bd9cfb63a361ff09e29f2fa9b9159fd7ce55ebc", func := "loop.example/g01042/laws.FnSites", spec := "fnSites", inPlace := ["internal/bytealg.IndexByteString"], unfollowed := true, recurses := true, apart := false, narrowed := true }
def FnSitesUptoSaid : Prop := fnSitesUptoRow.holds Try.pinned (OpenSpec.upto fnSitesSpec)

/-- 'laws.FnLaying', WHERE WHAT IT READS IS OF BULK AT MOST 1048576: true; the input reads as it did. -/
def fnLayingUptoRow : OpenClaim := { program := "ytghdhfnhjfnggaa", sum := "dc30e82808e757d5b41b50151bd9cfb63a361ff09e29f2fa9b9159fd7ce55ebc", func := "loop.example/g01042/laws.FnLaying", spec := "fnLaying", inPlace := ["internal/bytealg.IndexByteString", "internal/bytealg.IndexString"], unfollowed := true, recurses := true, named := ["internal/bytealg.MaxLen"], apart := false, narrowed := true }
def FnLayingUptoSaid : Prop := fnLayingUptoRow.holds Try.pinned (OpenSpec.upto fnLayingSpec)

end Rows
end Go.Proofs.Ytghdhfnhjfnggaa
