/- Texts AvYz. -/
import GoSem.ClaimJoined
import Derived.Test.YtlgnflbekdldnaaGreatDoorAvK21
set_option linter.unusedVariables false
set_option linter.unusedSimpArgs false
set_option linter.unusedSectionVars false
noncomputable section
namespace Go.AV
def intC (n : Int) : List C := [.int .i64 n]
def u8C (n : Int) : List C := [.int .u8 n]
def u16C (n : Int) : List C := [.int .u16 n]
def u64C (n : Int) : List C := [.int .u64 n]
def boolC (b : Bool) : List C := [.bool b]
def strC (z : ByteArray) : List C := [.str z]
inductive GVal where
  | mk (Kind : Int) (Num : Int) (Text : ByteArray) (Items : List GVal) (Keys : List ByteArray)
  deriving Inhabited
def GVal.Kind : GVal → Int | .mk x _ _ _ _ => x
def GVal.Num : GVal → Int | .mk _ x _ _ _ => x
def GVal.Text : GVal → ByteArray | .mk _ _ x _ _ => x
def GVal.Items : GVal → List GVal | .mk _ _ _ x _ => x
def GVal.Keys : GVal → List ByteArray | .mk _ _ _ _ x => x
mutual
def GVal.sub : GVal → List C
  | .mk x0 x1 x2 x3 x4 => [.int .i64 x0, .int .i64 x1, .str x2, .sl (GVal.css x3), .sl (x4.map strC)]
def GVal.css : List GVal → List (List C)
  | [] => []
  | v :: vs => GVal.sub v :: GVal.css vs
end
def GVal.cs (v : GVal) : List C := [.int .i64 v.Kind, .int .i64 v.Num, .str v.Text, .sl (GVal.css v.Items), .sl (v.Keys.map strC)]
theorem GVal.sub_eq (v : GVal) : v.sub = v.cs := by cases v; rfl
theorem GVal.css_map (vs : List GVal) : GVal.css vs = vs.map GVal.cs := by
  induction vs with
  | nil => rfl
  | cons v vs ih => show GVal.sub v :: GVal.css vs = _; rw [ih, GVal.sub_eq]; rfl
structure GPolicy where
  Queue : ByteArray
  ToStart : Int
  ToClose : Int
  Total : Int
  Beat : Int
  First : Int
  Coef : Int
  Most : Int
  Attempts : Int
  Fatal : List ByteArray
  deriving Inhabited
def GPolicy.cs (x : GPolicy) : List C := [.str x.Queue, .int .i64 x.ToStart, .int .i64 x.ToClose, .int .i64 x.Total, .int .i64 x.Beat, .int .i64 x.First, .int .i64 x.Coef, .int .i64 x.Most, .int .i64 x.Attempts, .sl (x.Fatal.map strC)]
structure GAct where
  Seq : Int
  Event : Int
  Name : ByteArray
  Data : GVal
  Opts : GPolicy
  State : Int
  Attempt : Int
  Scheduled : Int
  Due : Int
  Started : Int
  LastBeat : Int
  Token : Int
  Cancel : Bool
  Details : GVal
  Failure : ByteArray
  deriving Inhabited
def GAct.cs (x : GAct) : List C := [.int .i64 x.Seq, .int .i64 x.Event, .str x.Name] ++ (x.Data.cs ++ (x.Opts.cs ++ ([.int .i64 x.State, .int .i64 x.Attempt, .int .i64 x.Scheduled, .int .i64 x.Due, .int .i64 x.Started, .int .i64 x.LastBeat, .int .i64 x.Token, .bool x.Cancel] ++ (x.Details.cs ++ [.str x.Failure]))))
structure GTimer where
  Seq : Int
  Event : Int
  Due : Int
  deriving Inhabited
def GTimer.cs (x : GTimer) : List C := [.int .i64 x.Seq, .int .i64 x.Event, .int .i64 x.Due]
structure GKid where
  Seq : Int
  Event : Int
  Key : ByteArray
  Name : ByteArray
  Policy : Int
  Run : ByteArray
  deriving Inhabited
def GKid.cs (x : GKid) : List C := [.int .i64 x.Seq, .int .i64 x.Event, .str x.Key, .str x.Name, .int .i64 x.Policy, .str x.Run]
structure GSend where
  Seq : Int
  Event : Int
  Key : ByteArray
  Name : ByteArray
  deriving Inhabited
def GSend.cs (x : GSend) : List C := [.int .i64 x.Seq, .int .i64 x.Event, .str x.Key, .str x.Name]
structure GUpd where
  Key : ByteArray
  Done : Bool
  deriving Inhabited
def GUpd.cs (x : GUpd) : List C := [.str x.Key, .bool x.Done]
structure GPending where
  Next : Int
  Status : Int
  Task : Int
  TaskID : Int
  Attempt : Int
  Seq : Int
  Name : ByteArray
  Input : GVal
  Attrs : GVal
  Cancel : Bool
  Acts : List GAct
  Timers : List GTimer
  Kids : List GKid
  Sends : List GSend
  Updates : List GUpd
  Requests : List ByteArray
  deriving Inhabited
def GPending.cs (x : GPending) : List C := [.int .i64 x.Next, .int .i64 x.Status, .int .i64 x.Task, .int .i64 x.TaskID, .int .i64 x.Attempt, .int .i64 x.Seq, .str x.Name] ++ (x.Input.cs ++ (x.Attrs.cs ++ [.bool x.Cancel, .sl (x.Acts.map GAct.cs), .sl (x.Timers.map GTimer.cs), .sl (x.Kids.map GKid.cs), .sl (x.Sends.map GSend.cs), .sl (x.Updates.map GUpd.cs), .sl (x.Requests.map strC)]))
structure GEvent where
  ID : Int
  Kind : Int
  Time : Int
  Seq : Int
  Ref : Int
  N : Int
  Code : Int
  Name : ByteArray
  Key : ByteArray
  Data : GVal
  Opts : GPolicy
  deriving Inhabited
def GEvent.cs (x : GEvent) : List C := [.int .i64 x.ID, .int .i64 x.Kind, .int .i64 x.Time, .int .i64 x.Seq, .int .i64 x.Ref, .int .i64 x.N, .int .i64 x.Code, .str x.Name, .str x.Key] ++ (x.Data.cs ++ x.Opts.cs)
theorem GEvent.put_N (x : GEvent) (y : Int) : spl ((GEvent.cs x).map A.c) 5 [A.c (.int .i64 y)] = (GEvent.cs { x with N := y }).map A.c := rfl
structure GCommand where
  Kind : Int
  Seq : Int
  Name : ByteArray
  Key : ByteArray
  N : Int
  Data : GVal
  Opts : GPolicy
  deriving Inhabited
def GCommand.cs (x : GCommand) : List C := [.int .i64 x.Kind, .int .i64 x.Seq, .str x.Name, .str x.Key, .int .i64 x.N] ++ (x.Data.cs ++ x.Opts.cs)
theorem GCommand.put_N (x : GCommand) (y : Int) : spl ((GCommand.cs x).map A.c) 4 [A.c (.int .i64 y)] = (GCommand.cs { x with N := y }).map A.c := rfl
structure GEUses where
  seq : Bool
  ref : Bool
  n : Bool
  code : Bool
  name : Bool
  key : Bool
  data : Bool
  deriving Inhabited
def GEUses.cs (x : GEUses) : List C := [.bool x.seq, .bool x.ref, .bool x.n, .bool x.code, .bool x.name, .bool x.key, .bool x.data]
structure GCUses where
  seq : Bool
  name : Bool
  key : Bool
  n : Bool
  data : Bool
  opts : Bool
  deriving Inhabited
def GCUses.cs (x : GCUses) : List C := [.bool x.seq, .bool x.name, .bool x.key, .bool x.n, .bool x.data, .bool x.opts]
structure Gfields where
  seq : Bool
  ref : Bool
  n : Bool
  code : Bool
  name : Bool
  key : Bool
  data : Bool
  opts : Bool
  deriving Inhabited
def Gfields.cs (x : Gfields) : List C := [.bool x.seq, .bool x.ref, .bool x.n, .bool x.code, .bool x.name, .bool x.key, .bool x.data, .bool x.opts]
mutual
def GVal.ok : GVal → Prop
  | .mk x0 x1 x2 x3 x4 => IntKind.i64.wrap x0 = x0 ∧ IntKind.i64.wrap x1 = x1 ∧ x2.size ≤ reachBytes ∧ (GVal.oks x3 ∧ x3.length * 80 ≤ reachBytes) ∧ ((∀ z ∈ x4, (fun z : ByteArray => z.size ≤ reachBytes) z) ∧ x4.length * 16 ≤ reachBytes) ∧ True
def GVal.oks : List GVal → Prop
  | [] => True
  | v :: vs => GVal.ok v ∧ GVal.oks vs
end
theorem GVal.oks_iff (vs : List GVal) : GVal.oks vs ↔ ∀ v ∈ vs, GVal.ok v := by
  induction vs with
  | nil => simp [GVal.oks]
  | cons v vs ih => simp [GVal.oks, ih]
def GPolicy.ok (x : GPolicy) : Prop := x.Queue.size ≤ reachBytes ∧ IntKind.i64.wrap x.ToStart = x.ToStart ∧ IntKind.i64.wrap x.ToClose = x.ToClose ∧ IntKind.i64.wrap x.Total = x.Total ∧ IntKind.i64.wrap x.Beat = x.Beat ∧ IntKind.i64.wrap x.First = x.First ∧ IntKind.i64.wrap x.Coef = x.Coef ∧ IntKind.i64.wrap x.Most = x.Most ∧ IntKind.i64.wrap x.Attempts = x.Attempts ∧ ((∀ z ∈ x.Fatal, (fun z : ByteArray => z.size ≤ reachBytes) z) ∧ x.Fatal.length * 16 ≤ reachBytes) ∧ True
def GAct.ok (x : GAct) : Prop := IntKind.i64.wrap x.Seq = x.Seq ∧ IntKind.i64.wrap x.Event = x.Event ∧ x.Name.size ≤ reachBytes ∧ GVal.ok x.Data ∧ GPolicy.ok x.Opts ∧ IntKind.i64.wrap x.State = x.State ∧ IntKind.i64.wrap x.Attempt = x.Attempt ∧ IntKind.i64.wrap x.Scheduled = x.Scheduled ∧ IntKind.i64.wrap x.Due = x.Due ∧ IntKind.i64.wrap x.Started = x.Started ∧ IntKind.i64.wrap x.LastBeat = x.LastBeat ∧ IntKind.i64.wrap x.Token = x.Token ∧ True ∧ GVal.ok x.Details ∧ x.Failure.size ≤ reachBytes ∧ True
def GTimer.ok (x : GTimer) : Prop := IntKind.i64.wrap x.Seq = x.Seq ∧ IntKind.i64.wrap x.Event = x.Event ∧ IntKind.i64.wrap x.Due = x.Due ∧ True
def GKid.ok (x : GKid) : Prop := IntKind.i64.wrap x.Seq = x.Seq ∧ IntKind.i64.wrap x.Event = x.Event ∧ x.Key.size ≤ reachBytes ∧ x.Name.size ≤ reachBytes ∧ IntKind.i64.wrap x.Policy = x.Policy ∧ x.Run.size ≤ reachBytes ∧ True
def GSend.ok (x : GSend) : Prop := IntKind.i64.wrap x.Seq = x.Seq ∧ IntKind.i64.wrap x.Event = x.Event ∧ x.Key.size ≤ reachBytes ∧ x.Name.size ≤ reachBytes ∧ True
def GUpd.ok (x : GUpd) : Prop := x.Key.size ≤ reachBytes ∧ True ∧ True
def GPending.ok (x : GPending) : Prop := IntKind.i64.wrap x.Next = x.Next ∧ IntKind.i64.wrap x.Status = x.Status ∧ IntKind.i64.wrap x.Task = x.Task ∧ IntKind.i64.wrap x.TaskID = x.TaskID ∧ IntKind.i64.wrap x.Attempt = x.Attempt ∧ IntKind.i64.wrap x.Seq = x.Seq ∧ x.Name.size ≤ reachBytes ∧ GVal.ok x.Input ∧ GVal.ok x.Attrs ∧ True ∧ ((∀ z ∈ x.Acts, GAct.ok z) ∧ x.Acts.length * 376 ≤ reachBytes) ∧ ((∀ z ∈ x.Timers, GTimer.ok z) ∧ x.Timers.length * 24 ≤ reachBytes) ∧ ((∀ z ∈ x.Kids, GKid.ok z) ∧ x.Kids.length * 72 ≤ reachBytes) ∧ ((∀ z ∈ x.Sends, GSend.ok z) ∧ x.Sends.length * 48 ≤ reachBytes) ∧ ((∀ z ∈ x.Updates, GUpd.ok z) ∧ x.Updates.length * 24 ≤ reachBytes) ∧ ((∀ z ∈ x.Requests, (fun z : ByteArray => z.size ≤ reachBytes) z) ∧ x.Requests.length * 16 ≤ reachBytes) ∧ True
def GEvent.ok (x : GEvent) : Prop := IntKind.i64.wrap x.ID = x.ID ∧ IntKind.i64.wrap x.Kind = x.Kind ∧ IntKind.i64.wrap x.Time = x.Time ∧ IntKind.i64.wrap x.Seq = x.Seq ∧ IntKind.i64.wrap x.Ref = x.Ref ∧ IntKind.i64.wrap x.N = x.N ∧ IntKind.i64.wrap x.Code = x.Code ∧ x.Name.size ≤ reachBytes ∧ x.Key.size ≤ reachBytes ∧ GVal.ok x.Data ∧ GPolicy.ok x.Opts ∧ True
def GCommand.ok (x : GCommand) : Prop := IntKind.i64.wrap x.Kind = x.Kind ∧ IntKind.i64.wrap x.Seq = x.Seq ∧ x.Name.size ≤ reachBytes ∧ x.Key.size ≤ reachBytes ∧ IntKind.i64.wrap x.N = x.N ∧ GVal.ok x.Data ∧ GPolicy.ok x.Opts ∧ True
def GEUses.ok (x : GEUses) : Prop := True ∧ True ∧ True ∧ True ∧ True ∧ True ∧ True ∧ True
def GCUses.ok (x : GCUses) : Prop := True ∧ True ∧ True ∧ True ∧ True ∧ True ∧ True
def Gfields.ok (x : Gfields) : Prop := True ∧ True ∧ True ∧ True ∧ True ∧ True ∧ True ∧ True ∧ True
attribute [go_sem] GEvent.put_N GCommand.put_N
end Go.AV
end
