/-
  DERIVED. GIVEN WITH THE SEED: THE CARDS: each row of YtjflcpkmoamijaaGreatDoorRows.lean that lists a variable, with what it lists TIED to the program's text (the seventh form; the later family's looks); each row that meets fmt, with fmt's text TOLD by the authors' own Lean function (tested against real Go, not proved from fmt's source: count such statements apart). THE CARD IS WHAT COUNTS. Prove the row's statement (the work); the ties are given (YtjflcpkmoamijaaGreatDoorTie.lean); close each card by the builder's one call (the guide's Derived/Test/ToyasCard.lean, 'card_holds'). Laid BY PROGRAM, IN A SANDBOX (cutbox-door.mjs). By AI agents, Wed Nov 11 2026. No macro, syntax, notation, axiom, sorry.
-/
import Derived.Test.YtjflcpkmoamijaaGreatDoorRows
import GoSem.ClaimSeven
namespace Go.Proofs.YtjflcpkmoamijaaGreatDoor
namespace Rows

/-- THE TIED CARD OF 'mapmakerlaw57.CacheOpens'. -/
def cacheOpensCard : Claim7 := { stood := { row := cacheOpensRow, standIns := [], harness := (true, "7ac7d307e51f1f0ff66dbbfdece5381182cb1c0c8717dc3cf3b2b16bba6f9219"), looks := true }, kinds := [], alts := [], laidByText := true, laidKinds := [.data, .pinned], laidTests := true, laidLooks := .later }
def CacheOpensCardSaid : Prop := Claim7.holds Tryz.pinned (.plain (OpenSpec.ofChange cacheOpensSpec)) cacheOpensCard

/-- THE TIED CARD OF 'mapmakerlaw57.CachePlays'. -/
def cachePlaysCard : Claim7 := { stood := { row := cachePlaysRow, standIns := [], harness := (true, "7ac7d307e51f1f0ff66dbbfdece5381182cb1c0c8717dc3cf3b2b16bba6f9219"), looks := true }, kinds := [], alts := [], laidByText := true, laidKinds := [.data, .pinned], laidTests := true, laidLooks := .later }
def CachePlaysCardSaid : Prop := Claim7.holds Tryz.pinned (.plain (OpenSpec.ofChange cachePlaysSpec)) cachePlaysCard

/-- THE TIED CARD OF 'mapmakerlaw57.CacheCompacts'. -/
def cacheCompactsCard : Claim7 := { stood := { row := cacheCompactsRow, standIns := [], harness := (true, "7ac7d307e51f1f0ff66dbbfdece5381182cb1c0c8717dc3cf3b2b16bba6f9219"), looks := true }, kinds := [], alts := [], laidByText := true, laidKinds := [.data, .pinned], laidTests := true, laidLooks := .later }
def CacheCompactsCardSaid : Prop := Claim7.holds Tryz.pinned (.plain (OpenSpec.ofChange cacheCompactsSpec)) cacheCompactsCard

/-- THE TIED CARD OF 'mapmakerlaw57.CacheNil'. -/
def cacheNilCard : Claim7 := { stood := { row := cacheNilRow, standIns := [], harness := (true, "7ac7d307e51f1f0ff66dbbfdece5381182cb1c0c8717dc3cf3b2b16bba6f9219"), looks := true }, kinds := [], alts := [], laidByText := true, laidKinds := [.data, .pinned], laidTests := true, laidLooks := .later }
def CacheNilCardSaid : Prop := Claim7.holds Tryz.pinned (.plain (OpenSpec.ofChange cacheNilSpec)) cacheNilCard

/-- THE TIED CARD OF 'mapmakerlaw57.CacheCrash'. -/
def cacheCrashCard : Claim7 := { stood := { row := cacheCrashRow, standIns := [], harness := (true, "7ac7d307e51f1f0ff66dbbfdece5381182cb1c0c8717dc3cf3b2b16bba6f9219"), looks := true }, kinds := [], alts := [], laidByText := true, laidKinds := [.data, .pinned], laidTests := true, laidLooks := .later }
def CacheCrashCardSaid : Prop := Claim7.holds Tryz.pinned (.plain (OpenSpec.ofChange cacheCrashSpec)) cacheCrashCard

/-- THE TIED CARD OF 'mapmakerlaw57.CacheStops'. -/
def cacheStopsCard : Claim7 := { stood := { row := cacheStopsRow, standIns := [], harness := (true, "7ac7d307e51f1f0ff66dbbfdece5381182cb1c0c8717dc3cf3b2b16bba6f9219"), looks := true }, kinds := [], alts := [], laidByText := true, laidKinds := [.data, .pinned], laidTests := true, laidLooks := .later }
def CacheStopsCardSaid : Prop := Claim7.holds Tryz.pinned (.plain (OpenSpec.ofChange cacheStopsSpec)) cacheStopsCard

/-- THE SECOND FORM's CARD OF 'mapmakerlaw57.CacheOpens'. -/
def cacheOpensUptoCard : Claim7 := { stood := { row := cacheOpensUptoRow, standIns := [], harness := (true, "7ac7d307e51f1f0ff66dbbfdece5381182cb1c0c8717dc3cf3b2b16bba6f9219"), looks := true }, kinds := [], alts := [], laidByText := true, laidKinds := [.data, .pinned], laidTests := true, laidLooks := .later }
def CacheOpensUptoCardSaid : Prop := Claim7.holds Tryz.pinned (.plain (OpenSpec.upto cacheOpensSpec)) cacheOpensUptoCard

/-- THE SECOND FORM's CARD OF 'mapmakerlaw57.CachePlays'. -/
def cachePlaysUptoCard : Claim7 := { stood := { row := cachePlaysUptoRow, standIns := [], harness := (true, "7ac7d307e51f1f0ff66dbbfdece5381182cb1c0c8717dc3cf3b2b16bba6f9219"), looks := true }, kinds := [], alts := [], laidByText := true, laidKinds := [.data, .pinned], laidTests := true, laidLooks := .later }
def CachePlaysUptoCardSaid : Prop := Claim7.holds Tryz.pinned (.plain (OpenSpec.upto cachePlaysSpec)) cachePlaysUptoCard

/-- THE SECOND FORM's CARD OF 'mapmakerlaw57.CacheCompacts'. -/
def cacheCompactsUptoCard : Claim7 := { stood := { row := cacheCompactsUptoRow, standIns := [], harness := (true, "7ac7d307e51f1f0ff66dbbfdece5381182cb1c0c8717dc3cf3b2b16bba6f9219"), looks := true }, kinds := [], alts := [], laidByText := true, laidKinds := [.data, .pinned], laidTests := true, laidLooks := .later }
def CacheCompactsUptoCardSaid : Prop := Claim7.holds Tryz.pinned (.plain (OpenSpec.upto cacheCompactsSpec)) cacheCompactsUptoCard

/-- THE SECOND FORM's CARD OF 'mapmakerlaw57.CacheNil'. -/
def cacheNilUptoCard : Claim7 := { stood := { row := cacheNilUptoRow, standIns := [], harness := (true, "7ac7d307e51f1f0ff66dbbfdece5381182cb1c0c8717dc3cf3b2b16bba6f9219"), looks := true }, kinds := [], alts := [], laidByText := true, laidKinds := [.data, .pinned], laidTests := true, laidLooks := .later }
def CacheNilUptoCardSaid : Prop := Claim7.holds Tryz.pinned (.plain (OpenSpec.upto cacheNilSpec)) cacheNilUptoCard

/-- THE SECOND FORM's CARD OF 'mapmakerlaw57.CacheCrash'. -/
def cacheCrashUptoCard : Claim7 := { stood := { row := cacheCrashUptoRow, standIns := [], harness := (true, "7ac7d307e51f1f0ff66dbbfdece5381182cb1c0c8717dc3cf3b2b16bba6f9219"), looks := true }, kinds := [], alts := [], laidByText := true, laidKinds := [.data, .pinned], laidTests := true, laidLooks := .later }
def CacheCrashUptoCardSaid : Prop := Claim7.holds Tryz.pinned (.plain (OpenSpec.upto cacheCrashSpec)) cacheCrashUptoCard

/-- THE SECOND FORM's CARD OF 'mapmakerlaw57.CacheStops'. -/
def cacheStopsUptoCard : Claim7 := { stood := { row := cacheStopsUptoRow, standIns := [], harness := (true, "7ac7d307e51f1f0ff66dbbfdece5381182cb1c0c8717dc3cf3b2b16bba6f9219"), looks := true }, kinds := [], alts := [], laidByText := true, laidKinds := [.data, .pinned], laidTests := true, laidLooks := .later }
def CacheStopsUptoCardSaid : Prop := Claim7.holds Tryz.pinned (.plain (OpenSpec.upto cacheStopsSpec)) cacheStopsUptoCard
end Rows
end Go.Proofs.YtjflcpkmoamijaaGreatDoor
