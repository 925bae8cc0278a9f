/-
  A cache as plain data, and what its calls make of it.
-/
import Derived.Test.YtjjgihaikcnjgaaDLaw
namespace Go.Proofs.Ytjjgihaikcnjgaa
open Go.RowKit
set_option linter.unusedSimpArgs false
set_option linter.unusedVariables false

/-- a frame -/
structure Frm where
  sector : Int
  pins : Int
  dirty : Bool
  order : Int
  bytes : List Int
/-- a cache with its disk; the frames: the one used longest ago first -/
structure CS where
  d : DS
  room : Int
  frames : List Frm
  hits : Int
  misses : Int
  writes : Int
  gone : Int
def Frm.is (n : Int) (f : Frm) : Bool := f.sector == n
def Frm.clean (f : Frm) : Frm := { f with dirty := false, order := 0 }
def CS.look (s : CS) (n : Int) : Option Frm := s.frames.find? (Frm.is n)
/-- the frames but a sector's -/
def CS.rest (s : CS) (n : Int) : List Frm := s.frames.filter (fun f => !Frm.is n f)
def Frm.before (a b : Frm) : Bool := decide (a.order < b.order) || (a.order == b.order && decide (a.sector < b.sector))
def Frm.due (o : Int) (f : Frm) : Bool := f.dirty && decide (f.order ≤ o)
/-- the frames that WriteUpTo writes, in its order -/
def CS.due (s : CS) (o : Int) : List Frm := (s.frames.filter (Frm.due o)).mergeSort (fun x y => !Frm.before y x)
/-- one is written -/
def CS.write1 (s : CS) (f : Frm) : CS := { s with d := s.d.wrote f.sector f.bytes, frames := s.frames.map (fun g => if Frm.is f.sector g then g.clean else g), writes := wrap64 (s.writes + 1) }
def CS.upTo (s : CS) (o : Int) : CS := (s.due o).foldl CS.write1 s
/-- the frame that is let go -/
def CS.old (s : CS) : Option Frm := s.frames.find? (fun f => f.pins == 0)
def CS.drop1 (s : CS) (n : Int) : CS := { s with frames := s.rest n }
/-- room for one more: what is told, and the cache then -/
def CS.made (s : CS) : Int × CS :=
  if (s.frames.length : Int) < s.room then (0, s)
  else match s.old with
    | none => (2, s)
    | some f => (0, { ((if f.dirty then s.upTo f.order else s).drop1 f.sector) with gone := wrap64 (s.gone + 1) })
def CS.used (s : CS) (f : Frm) : CS := { s with frames := s.rest f.sector ++ [f] }
def CS.added (s : CS) (f : Frm) : CS := { s with frames := s.frames ++ [f] }
/-- a sector's frame is found, or read: it is the one used last -/
def CS.fetch (s : CS) (n : Int) : Int × CS :=
  match s.look n with
  | some f => (0, { (s.used f) with hits := wrap64 (s.hits + 1) })
  | none =>
    if 0 ≤ n ∧ n < s.d.count then
      let t := ({ s with d := s.d.read, misses := wrap64 (s.misses + 1) } : CS).made
      if t.1 = 0 then (0, t.2.added ⟨n, 0, false, 0, s.d.sector n⟩) else t
    else (30, s)
def CS.lastBytes (s : CS) : List Int := (s.frames.getLastD ⟨0, 0, false, 0, []⟩).bytes
def Frm.pin (f : Frm) : Frm := { f with pins := wrap64 (f.pins + 1) }
def Frm.unpin (f : Frm) : Frm := { f with pins := wrap64 (f.pins - 1) }
/-- the last frame is turned -/
def CS.onLast (s : CS) (g : Frm → Frm) : CS := { s with frames := s.frames.dropLast ++ (s.frames.drop (s.frames.length - 1)).map g }
def CS.pin (s : CS) (n : Int) : Int × CS := if (s.fetch n).1 = 0 then (0, (s.fetch n).2.onLast Frm.pin) else s.fetch n
def CS.unpin (s : CS) (n : Int) : Int × CS :=
  match s.look n with
  | none => (81, s)
  | some f => if f.pins = 0 then (81, s) else (0, { s with frames := s.frames.map (fun g => if Frm.is n g then g.unpin else g) })
def CS.put (s : CS) (n : Int) (l : List Int) (o : Int) : Int × CS :=
  if 0 ≤ n ∧ n < s.d.count ∧ (l.length : Int) = s.d.size then
    match s.look n with
    | some f => if f.dirty = true ∧ o < f.order then (80, s) else (0, { s with frames := s.rest n ++ [⟨n, f.pins, true, o, l⟩] })
    | none => let t := s.made; if t.1 = 0 then (0, t.2.added ⟨n, 0, true, o, l⟩) else t
  else (30, s)
def CS.sync (s : CS) : CS := { (s.upTo 18446744073709551615) with d := (s.upTo 18446744073709551615).d.flush }
def Frm.stays (f : Frm) : Bool := f.dirty || !(f.pins == 0)
def CS.drop (s : CS) : CS := { s with frames := s.frames.filter Frm.stays }
def CS.new (d : DS) (room : Int) : CS := ⟨d, room, [], 0, 0, 0, 0⟩

/-- what holds of every cache -/
structure CS.Ok (s : CS) : Prop where
  d : s.d.Ok
  on : s.d.stops = false
  room0 : 1 ≤ s.room
  room1 : s.room ≤ 4096
  len : (s.frames.length : Int) ≤ s.room
  nodup : (s.frames.map Frm.sector).Nodup
  at0 : ∀ f ∈ s.frames, 0 ≤ f.sector ∧ f.sector < s.d.count
  size : ∀ f ∈ s.frames, (f.bytes.length : Int) = s.d.size
  order : ∀ f ∈ s.frames, 0 ≤ f.order ∧ f.order ≤ 18446744073709551615
end Go.Proofs.Ytjjgihaikcnjgaa
