/- Go's structs as Lean structures, their cells, and what is cut out of them and put into them (printed by types.py). -/
import Derived.Test.YtlgnflbekdldnaaAv21
import GoSem.ClaimJoined
set_option linter.unusedVariables false
namespace Go.AV
def intC (n : Int) : List C := [.int .i64 n]
def u8C (n : Int) : List C := [.int .u8 n]
def u16C (n : Int) : List C := [.int .u16 n]
def u64C (n : Int) : List C := [.int .u64 n]
def boolC (b : Bool) : List C := [.bool b]
def strC (z : ByteArray) : List C := [.str z]

inductive GVal where
  | mk (Kind : Int) (Num : Int) (Text : ByteArray) (Items : List GVal) (Keys : List ByteArray)
  deriving Inhabited
def GVal.Kind : GVal → Int | .mk x _ _ _ _ => x
def GVal.Num : GVal → Int | .mk _ x _ _ _ => x
def GVal.Text : GVal → ByteArray | .mk _ _ x _ _ => x
def GVal.Items : GVal → List GVal | .mk _ _ _ x _ => x
def GVal.Keys : GVal → List ByteArray | .mk _ _ _ _ x => x
def GVal.setKind (v : GVal) (y : Int) : GVal := .mk y v.Num v.Text v.Items v.Keys
theorem GVal.Kind_mk (x0 : Int) (x1 : Int) (x2 : ByteArray) (x3 : List GVal) (x4 : List ByteArray) : (GVal.mk x0 x1 x2 x3 x4).Kind = x0 := rfl
def GVal.setNum (v : GVal) (y : Int) : GVal := .mk v.Kind y v.Text v.Items v.Keys
theorem GVal.Num_mk (x0 : Int) (x1 : Int) (x2 : ByteArray) (x3 : List GVal) (x4 : List ByteArray) : (GVal.mk x0 x1 x2 x3 x4).Num = x1 := rfl
def GVal.setText (v : GVal) (y : ByteArray) : GVal := .mk v.Kind v.Num y v.Items v.Keys
theorem GVal.Text_mk (x0 : Int) (x1 : Int) (x2 : ByteArray) (x3 : List GVal) (x4 : List ByteArray) : (GVal.mk x0 x1 x2 x3 x4).Text = x2 := rfl
def GVal.setItems (v : GVal) (y : List GVal) : GVal := .mk v.Kind v.Num v.Text y v.Keys
theorem GVal.Items_mk (x0 : Int) (x1 : Int) (x2 : ByteArray) (x3 : List GVal) (x4 : List ByteArray) : (GVal.mk x0 x1 x2 x3 x4).Items = x3 := rfl
def GVal.setKeys (v : GVal) (y : List ByteArray) : GVal := .mk v.Kind v.Num v.Text v.Items y
theorem GVal.Keys_mk (x0 : Int) (x1 : Int) (x2 : ByteArray) (x3 : List GVal) (x4 : List ByteArray) : (GVal.mk x0 x1 x2 x3 x4).Keys = x4 := rfl
mutual
def GVal.sub : GVal → List C
  | .mk x0 x1 x2 x3 x4 => [.int .i64 x0, .int .i64 x1, .str x2, .sl (GVal.css x3), .sl (x4.map strC)]
def GVal.css : List GVal → List (List C)
  | [] => []
  | v :: vs => GVal.sub v :: GVal.css vs
end
def GVal.cs (v : GVal) : List C := [.int .i64 v.Kind, .int .i64 v.Num, .str v.Text, .sl (GVal.css v.Items), .sl (v.Keys.map strC)]
theorem GVal.sub_eq (v : GVal) : v.sub = v.cs := by cases v; rfl
theorem GVal.css_map (vs : List GVal) : GVal.css vs = vs.map GVal.cs := by
  induction vs with
  | nil => rfl
  | cons v vs ih => show GVal.sub v :: GVal.css vs = _; rw [ih, GVal.sub_eq]; rfl
theorem GVal.cs_length (x : GVal) : (GVal.cs x).length = 5 := rfl
theorem GVal.cut_all (x : GVal) : ((GVal.cs x).drop 0).take 5 = GVal.cs x := rfl
theorem GVal.cut_all' (x : GVal) : (((GVal.cs x).map A.c).drop 0).take 5 = (GVal.cs x).map A.c := rfl
theorem GVal.cut_tk (x : GVal) : ((GVal.cs x).map A.c).take 5 = (GVal.cs x).map A.c := rfl
theorem GVal.cut_tk' (x : GVal) : (GVal.cs x).take 5 = GVal.cs x := rfl
theorem GVal.put_all (x y : GVal) : spl ((GVal.cs x).map A.c) 0 ((GVal.cs y).map A.c) = (GVal.cs y).map A.c := rfl
theorem GVal.cut_Kind (x : GVal) : ((GVal.cs x).drop 0).take 1 = [.int .i64 x.Kind] := rfl
theorem GVal.cat_Kind (x : GVal) : (((GVal.cs x).map A.c).drop 0).take 1 = [A.c (.int .i64 x.Kind)] := rfl
theorem GVal.cit_Kind (x : GVal) : ((GVal.cs x).map A.c).take 1 = [A.c (.int .i64 x.Kind)] := rfl
theorem GVal.cot_Kind (x : GVal) : (GVal.cs x).take 1 = [.int .i64 x.Kind] := rfl
theorem GVal.pit_Kind (x : GVal) (y : Int) : spl (GVal.cs x) 0 [.int .i64 y] = GVal.cs (x.setKind y) := rfl
theorem GVal.put_Kind (x : GVal) (y : Int) : spl ((GVal.cs x).map A.c) 0 [A.c (.int .i64 y)] = (GVal.cs (x.setKind y)).map A.c := rfl
theorem GVal.cut_Num (x : GVal) : ((GVal.cs x).drop 1).take 1 = [.int .i64 x.Num] := rfl
theorem GVal.cat_Num (x : GVal) : (((GVal.cs x).map A.c).drop 1).take 1 = [A.c (.int .i64 x.Num)] := rfl
theorem GVal.pit_Num (x : GVal) (y : Int) : spl (GVal.cs x) 1 [.int .i64 y] = GVal.cs (x.setNum y) := rfl
theorem GVal.put_Num (x : GVal) (y : Int) : spl ((GVal.cs x).map A.c) 1 [A.c (.int .i64 y)] = (GVal.cs (x.setNum y)).map A.c := rfl
theorem GVal.cut_Text (x : GVal) : ((GVal.cs x).drop 2).take 1 = [.str x.Text] := rfl
theorem GVal.cat_Text (x : GVal) : (((GVal.cs x).map A.c).drop 2).take 1 = [A.c (.str x.Text)] := rfl
theorem GVal.pit_Text (x : GVal) (y : ByteArray) : spl (GVal.cs x) 2 [.str y] = GVal.cs (x.setText y) := rfl
theorem GVal.put_Text (x : GVal) (y : ByteArray) : spl ((GVal.cs x).map A.c) 2 [A.c (.str y)] = (GVal.cs (x.setText y)).map A.c := rfl
theorem GVal.cut_Items (x : GVal) : ((GVal.cs x).drop 3).take 1 = [.sl (x.Items.map GVal.cs)] := congrArg (fun z => [C.sl z]) (GVal.css_map _)
theorem GVal.cat_Items (x : GVal) : (((GVal.cs x).map A.c).drop 3).take 1 = [A.c (.sl (x.Items.map GVal.cs))] := congrArg (fun z => [A.c (C.sl z)]) (GVal.css_map _)
theorem GVal.pit_Items (x : GVal) (y : List GVal) : spl (GVal.cs x) 3 [.sl (y.map GVal.cs)] = GVal.cs (x.setItems y) := by rw [← GVal.css_map]; rfl
theorem GVal.put_Items (x : GVal) (y : List GVal) : spl ((GVal.cs x).map A.c) 3 [A.c (.sl (y.map GVal.cs))] = (GVal.cs (x.setItems y)).map A.c := by rw [← GVal.css_map]; rfl
theorem GVal.cut_Keys (x : GVal) : ((GVal.cs x).drop 4).take 1 = [.sl (x.Keys.map strC)] := rfl
theorem GVal.cat_Keys (x : GVal) : (((GVal.cs x).map A.c).drop 4).take 1 = [A.c (.sl (x.Keys.map strC))] := rfl
theorem GVal.pit_Keys (x : GVal) (y : List ByteArray) : spl (GVal.cs x) 4 [.sl (y.map strC)] = GVal.cs (x.setKeys y) := rfl
theorem GVal.put_Keys (x : GVal) (y : List ByteArray) : spl ((GVal.cs x).map A.c) 4 [A.c (.sl (y.map strC))] = (GVal.cs (x.setKeys y)).map A.c := rfl

structure GPolicy where
  Queue : ByteArray
  ToStart : Int
  ToClose : Int
  Total : Int
  Beat : Int
  First : Int
  Coef : Int
  Most : Int
  Attempts : Int
  Fatal : List ByteArray
  deriving Inhabited
def GPolicy.cs (x : GPolicy) : List C := [.str x.Queue, .int .i64 x.ToStart, .int .i64 x.ToClose, .int .i64 x.Total, .int .i64 x.Beat, .int .i64 x.First, .int .i64 x.Coef, .int .i64 x.Most, .int .i64 x.Attempts, .sl (x.Fatal.map strC)]
theorem GPolicy.cs_length (x : GPolicy) : (GPolicy.cs x).length = 10 := rfl
theorem GPolicy.cut_all (x : GPolicy) : ((GPolicy.cs x).drop 0).take 10 = GPolicy.cs x := rfl
theorem GPolicy.cut_all' (x : GPolicy) : (((GPolicy.cs x).map A.c).drop 0).take 10 = (GPolicy.cs x).map A.c := rfl
theorem GPolicy.cut_tk (x : GPolicy) : ((GPolicy.cs x).map A.c).take 10 = (GPolicy.cs x).map A.c := rfl
theorem GPolicy.cut_tk' (x : GPolicy) : (GPolicy.cs x).take 10 = GPolicy.cs x := rfl
theorem GPolicy.put_all (x y : GPolicy) : spl ((GPolicy.cs x).map A.c) 0 ((GPolicy.cs y).map A.c) = (GPolicy.cs y).map A.c := rfl
theorem GPolicy.cut_Queue (x : GPolicy) : ((GPolicy.cs x).drop 0).take 1 = [.str x.Queue] := rfl
theorem GPolicy.cat_Queue (x : GPolicy) : (((GPolicy.cs x).map A.c).drop 0).take 1 = [A.c (.str x.Queue)] := rfl
theorem GPolicy.cit_Queue (x : GPolicy) : ((GPolicy.cs x).map A.c).take 1 = [A.c (.str x.Queue)] := rfl
theorem GPolicy.cot_Queue (x : GPolicy) : (GPolicy.cs x).take 1 = [.str x.Queue] := rfl
theorem GPolicy.pit_Queue (x : GPolicy) (y : ByteArray) : spl (GPolicy.cs x) 0 [.str y] = GPolicy.cs { x with Queue := y } := rfl
theorem GPolicy.put_Queue (x : GPolicy) (y : ByteArray) : spl ((GPolicy.cs x).map A.c) 0 [A.c (.str y)] = (GPolicy.cs { x with Queue := y }).map A.c := rfl
theorem GPolicy.cut_ToStart (x : GPolicy) : ((GPolicy.cs x).drop 1).take 1 = [.int .i64 x.ToStart] := rfl
theorem GPolicy.cat_ToStart (x : GPolicy) : (((GPolicy.cs x).map A.c).drop 1).take 1 = [A.c (.int .i64 x.ToStart)] := rfl
theorem GPolicy.pit_ToStart (x : GPolicy) (y : Int) : spl (GPolicy.cs x) 1 [.int .i64 y] = GPolicy.cs { x with ToStart := y } := rfl
theorem GPolicy.put_ToStart (x : GPolicy) (y : Int) : spl ((GPolicy.cs x).map A.c) 1 [A.c (.int .i64 y)] = (GPolicy.cs { x with ToStart := y }).map A.c := rfl
theorem GPolicy.cut_ToClose (x : GPolicy) : ((GPolicy.cs x).drop 2).take 1 = [.int .i64 x.ToClose] := rfl
theorem GPolicy.cat_ToClose (x : GPolicy) : (((GPolicy.cs x).map A.c).drop 2).take 1 = [A.c (.int .i64 x.ToClose)] := rfl
theorem GPolicy.pit_ToClose (x : GPolicy) (y : Int) : spl (GPolicy.cs x) 2 [.int .i64 y] = GPolicy.cs { x with ToClose := y } := rfl
theorem GPolicy.put_ToClose (x : GPolicy) (y : Int) : spl ((GPolicy.cs x).map A.c) 2 [A.c (.int .i64 y)] = (GPolicy.cs { x with ToClose := y }).map A.c := rfl
theorem GPolicy.cut_Total (x : GPolicy) : ((GPolicy.cs x).drop 3).take 1 = [.int .i64 x.Total] := rfl
theorem GPolicy.cat_Total (x : GPolicy) : (((GPolicy.cs x).map A.c).drop 3).take 1 = [A.c (.int .i64 x.Total)] := rfl
theorem GPolicy.pit_Total (x : GPolicy) (y : Int) : spl (GPolicy.cs x) 3 [.int .i64 y] = GPolicy.cs { x with Total := y } := rfl
theorem GPolicy.put_Total (x : GPolicy) (y : Int) : spl ((GPolicy.cs x).map A.c) 3 [A.c (.int .i64 y)] = (GPolicy.cs { x with Total := y }).map A.c := rfl
theorem GPolicy.cut_Beat (x : GPolicy) : ((GPolicy.cs x).drop 4).take 1 = [.int .i64 x.Beat] := rfl
theorem GPolicy.cat_Beat (x : GPolicy) : (((GPolicy.cs x).map A.c).drop 4).take 1 = [A.c (.int .i64 x.Beat)] := rfl
theorem GPolicy.pit_Beat (x : GPolicy) (y : Int) : spl (GPolicy.cs x) 4 [.int .i64 y] = GPolicy.cs { x with Beat := y } := rfl
theorem GPolicy.put_Beat (x : GPolicy) (y : Int) : spl ((GPolicy.cs x).map A.c) 4 [A.c (.int .i64 y)] = (GPolicy.cs { x with Beat := y }).map A.c := rfl
theorem GPolicy.cut_First (x : GPolicy) : ((GPolicy.cs x).drop 5).take 1 = [.int .i64 x.First] := rfl
theorem GPolicy.cat_First (x : GPolicy) : (((GPolicy.cs x).map A.c).drop 5).take 1 = [A.c (.int .i64 x.First)] := rfl
theorem GPolicy.pit_First (x : GPolicy) (y : Int) : spl (GPolicy.cs x) 5 [.int .i64 y] = GPolicy.cs { x with First := y } := rfl
theorem GPolicy.put_First (x : GPolicy) (y : Int) : spl ((GPolicy.cs x).map A.c) 5 [A.c (.int .i64 y)] = (GPolicy.cs { x with First := y }).map A.c := rfl
theorem GPolicy.cut_Coef (x : GPolicy) : ((GPolicy.cs x).drop 6).take 1 = [.int .i64 x.Coef] := rfl
theorem GPolicy.cat_Coef (x : GPolicy) : (((GPolicy.cs x).map A.c).drop 6).take 1 = [A.c (.int .i64 x.Coef)] := rfl
theorem GPolicy.pit_Coef (x : GPolicy) (y : Int) : spl (GPolicy.cs x) 6 [.int .i64 y] = GPolicy.cs { x with Coef := y } := rfl
theorem GPolicy.put_Coef (x : GPolicy) (y : Int) : spl ((GPolicy.cs x).map A.c) 6 [A.c (.int .i64 y)] = (GPolicy.cs { x with Coef := y }).map A.c := rfl
theorem GPolicy.cut_Most (x : GPolicy) : ((GPolicy.cs x).drop 7).take 1 = [.int .i64 x.Most] := rfl
theorem GPolicy.cat_Most (x : GPolicy) : (((GPolicy.cs x).map A.c).drop 7).take 1 = [A.c (.int .i64 x.Most)] := rfl
theorem GPolicy.pit_Most (x : GPolicy) (y : Int) : spl (GPolicy.cs x) 7 [.int .i64 y] = GPolicy.cs { x with Most := y } := rfl
theorem GPolicy.put_Most (x : GPolicy) (y : Int) : spl ((GPolicy.cs x).map A.c) 7 [A.c (.int .i64 y)] = (GPolicy.cs { x with Most := y }).map A.c := rfl
theorem GPolicy.cut_Attempts (x : GPolicy) : ((GPolicy.cs x).drop 8).take 1 = [.int .i64 x.Attempts] := rfl
theorem GPolicy.cat_Attempts (x : GPolicy) : (((GPolicy.cs x).map A.c).drop 8).take 1 = [A.c (.int .i64 x.Attempts)] := rfl
theorem GPolicy.pit_Attempts (x : GPolicy) (y : Int) : spl (GPolicy.cs x) 8 [.int .i64 y] = GPolicy.cs { x with Attempts := y } := rfl
theorem GPolicy.put_Attempts (x : GPolicy) (y : Int) : spl ((GPolicy.cs x).map A.c) 8 [A.c (.int .i64 y)] = (GPolicy.cs { x with Attempts := y }).map A.c := rfl
theorem GPolicy.cut_Fatal (x : GPolicy) : ((GPolicy.cs x).drop 9).take 1 = [.sl (x.Fatal.map strC)] := rfl
theorem GPolicy.cat_Fatal (x : GPolicy) : (((GPolicy.cs x).map A.c).drop 9).take 1 = [A.c (.sl (x.Fatal.map strC))] := rfl
theorem GPolicy.pit_Fatal (x : GPolicy) (y : List ByteArray) : spl (GPolicy.cs x) 9 [.sl (y.map strC)] = GPolicy.cs { x with Fatal := y } := rfl
theorem GPolicy.put_Fatal (x : GPolicy) (y : List ByteArray) : spl ((GPolicy.cs x).map A.c) 9 [A.c (.sl (y.map strC))] = (GPolicy.cs { x with Fatal := y }).map A.c := rfl

structure GAct where
  Seq : Int
  Event : Int
  Name : ByteArray
  Data : GVal
  Opts : GPolicy
  State : Int
  Attempt : Int
  Scheduled : Int
  Due : Int
  Started : Int
  LastBeat : Int
  Token : Int
  Cancel : Bool
  Details : GVal
  Failure : ByteArray
  deriving Inhabited
def GAct.cs (x : GAct) : List C := [.int .i64 x.Seq, .int .i64 x.Event, .str x.Name] ++ (x.Data.cs ++ (x.Opts.cs ++ ([.int .i64 x.State, .int .i64 x.Attempt, .int .i64 x.Scheduled, .int .i64 x.Due, .int .i64 x.Started, .int .i64 x.LastBeat, .int .i64 x.Token, .bool x.Cancel] ++ (x.Details.cs ++ [.str x.Failure]))))
theorem GAct.cs_length (x : GAct) : (GAct.cs x).length = 32 := rfl
theorem GAct.cut_all (x : GAct) : ((GAct.cs x).drop 0).take 32 = GAct.cs x := rfl
theorem GAct.cut_all' (x : GAct) : (((GAct.cs x).map A.c).drop 0).take 32 = (GAct.cs x).map A.c := rfl
theorem GAct.cut_tk (x : GAct) : ((GAct.cs x).map A.c).take 32 = (GAct.cs x).map A.c := rfl
theorem GAct.cut_tk' (x : GAct) : (GAct.cs x).take 32 = GAct.cs x := rfl
theorem GAct.put_all (x y : GAct) : spl ((GAct.cs x).map A.c) 0 ((GAct.cs y).map A.c) = (GAct.cs y).map A.c := rfl
theorem GAct.cut_Seq (x : GAct) : ((GAct.cs x).drop 0).take 1 = [.int .i64 x.Seq] := rfl
theorem GAct.cat_Seq (x : GAct) : (((GAct.cs x).map A.c).drop 0).take 1 = [A.c (.int .i64 x.Seq)] := rfl
theorem GAct.cit_Seq (x : GAct) : ((GAct.cs x).map A.c).take 1 = [A.c (.int .i64 x.Seq)] := rfl
theorem GAct.cot_Seq (x : GAct) : (GAct.cs x).take 1 = [.int .i64 x.Seq] := rfl
theorem GAct.pit_Seq (x : GAct) (y : Int) : spl (GAct.cs x) 0 [.int .i64 y] = GAct.cs { x with Seq := y } := rfl
theorem GAct.put_Seq (x : GAct) (y : Int) : spl ((GAct.cs x).map A.c) 0 [A.c (.int .i64 y)] = (GAct.cs { x with Seq := y }).map A.c := rfl
theorem GAct.cut_Event (x : GAct) : ((GAct.cs x).drop 1).take 1 = [.int .i64 x.Event] := rfl
theorem GAct.cat_Event (x : GAct) : (((GAct.cs x).map A.c).drop 1).take 1 = [A.c (.int .i64 x.Event)] := rfl
theorem GAct.pit_Event (x : GAct) (y : Int) : spl (GAct.cs x) 1 [.int .i64 y] = GAct.cs { x with Event := y } := rfl
theorem GAct.put_Event (x : GAct) (y : Int) : spl ((GAct.cs x).map A.c) 1 [A.c (.int .i64 y)] = (GAct.cs { x with Event := y }).map A.c := rfl
theorem GAct.cut_Name (x : GAct) : ((GAct.cs x).drop 2).take 1 = [.str x.Name] := rfl
theorem GAct.cat_Name (x : GAct) : (((GAct.cs x).map A.c).drop 2).take 1 = [A.c (.str x.Name)] := rfl
theorem GAct.pit_Name (x : GAct) (y : ByteArray) : spl (GAct.cs x) 2 [.str y] = GAct.cs { x with Name := y } := rfl
theorem GAct.put_Name (x : GAct) (y : ByteArray) : spl ((GAct.cs x).map A.c) 2 [A.c (.str y)] = (GAct.cs { x with Name := y }).map A.c := rfl
theorem GAct.cut_Data (x : GAct) : ((GAct.cs x).drop 3).take 5 = GVal.cs x.Data := rfl
theorem GAct.cat_Data (x : GAct) : (((GAct.cs x).map A.c).drop 3).take 5 = (GVal.cs x.Data).map A.c := rfl
theorem GAct.pit_Data (x : GAct) (y : GVal) : spl (GAct.cs x) 3 (GVal.cs y) = GAct.cs { x with Data := y } := rfl
theorem GAct.put_Data (x : GAct) (y : GVal) : spl ((GAct.cs x).map A.c) 3 ((GVal.cs y).map A.c) = (GAct.cs { x with Data := y }).map A.c := rfl
theorem GAct.cut_Data_Kind (x : GAct) : ((GAct.cs x).drop 3).take 1 = [.int .i64 x.Data.Kind] := rfl
theorem GAct.cat_Data_Kind (x : GAct) : (((GAct.cs x).map A.c).drop 3).take 1 = [A.c (.int .i64 x.Data.Kind)] := rfl
theorem GAct.pit_Data_Kind (x : GAct) (y : Int) : spl (GAct.cs x) 3 [.int .i64 y] = GAct.cs { x with Data := (x.Data.setKind y) } := rfl
theorem GAct.put_Data_Kind (x : GAct) (y : Int) : spl ((GAct.cs x).map A.c) 3 [A.c (.int .i64 y)] = (GAct.cs { x with Data := (x.Data.setKind y) }).map A.c := rfl
theorem GAct.cut_Data_Num (x : GAct) : ((GAct.cs x).drop 4).take 1 = [.int .i64 x.Data.Num] := rfl
theorem GAct.cat_Data_Num (x : GAct) : (((GAct.cs x).map A.c).drop 4).take 1 = [A.c (.int .i64 x.Data.Num)] := rfl
theorem GAct.pit_Data_Num (x : GAct) (y : Int) : spl (GAct.cs x) 4 [.int .i64 y] = GAct.cs { x with Data := (x.Data.setNum y) } := rfl
theorem GAct.put_Data_Num (x : GAct) (y : Int) : spl ((GAct.cs x).map A.c) 4 [A.c (.int .i64 y)] = (GAct.cs { x with Data := (x.Data.setNum y) }).map A.c := rfl
theorem GAct.cut_Data_Text (x : GAct) : ((GAct.cs x).drop 5).take 1 = [.str x.Data.Text] := rfl
theorem GAct.cat_Data_Text (x : GAct) : (((GAct.cs x).map A.c).drop 5).take 1 = [A.c (.str x.Data.Text)] := rfl
theorem GAct.pit_Data_Text (x : GAct) (y : ByteArray) : spl (GAct.cs x) 5 [.str y] = GAct.cs { x with Data := (x.Data.setText y) } := rfl
theorem GAct.put_Data_Text (x : GAct) (y : ByteArray) : spl ((GAct.cs x).map A.c) 5 [A.c (.str y)] = (GAct.cs { x with Data := (x.Data.setText y) }).map A.c := rfl
theorem GAct.cut_Data_Items (x : GAct) : ((GAct.cs x).drop 6).take 1 = [.sl (x.Data.Items.map GVal.cs)] := congrArg (fun z => [C.sl z]) (GVal.css_map _)
theorem GAct.cat_Data_Items (x : GAct) : (((GAct.cs x).map A.c).drop 6).take 1 = [A.c (.sl (x.Data.Items.map GVal.cs))] := congrArg (fun z => [A.c (C.sl z)]) (GVal.css_map _)
theorem GAct.pit_Data_Items (x : GAct) (y : List GVal) : spl (GAct.cs x) 6 [.sl (y.map GVal.cs)] = GAct.cs { x with Data := (x.Data.setItems y) } := by rw [← GVal.css_map]; rfl
theorem GAct.put_Data_Items (x : GAct) (y : List GVal) : spl ((GAct.cs x).map A.c) 6 [A.c (.sl (y.map GVal.cs))] = (GAct.cs { x with Data := (x.Data.setItems y) }).map A.c := by rw [← GVal.css_map]; rfl
theorem GAct.cut_Data_Keys (x : GAct) : ((GAct.cs x).drop 7).take 1 = [.sl (x.Data.Keys.map strC)] := rfl
theorem GAct.cat_Data_Keys (x : GAct) : (((GAct.cs x).map A.c).drop 7).take 1 = [A.c (.sl (x.Data.Keys.map strC))] := rfl
theorem GAct.pit_Data_Keys (x : GAct) (y : List ByteArray) : spl (GAct.cs x) 7 [.sl (y.map strC)] = GAct.cs { x with Data := (x.Data.setKeys y) } := rfl
theorem GAct.put_Data_Keys (x : GAct) (y : List ByteArray) : spl ((GAct.cs x).map A.c) 7 [A.c (.sl (y.map strC))] = (GAct.cs { x with Data := (x.Data.setKeys y) }).map A.c := rfl
theorem GAct.cut_Opts (x : GAct) : ((GAct.cs x).drop 8).take 10 = GPolicy.cs x.Opts := rfl
theorem GAct.cat_Opts (x : GAct) : (((GAct.cs x).map A.c).drop 8).take 10 = (GPolicy.cs x.Opts).map A.c := rfl
theorem GAct.pit_Opts (x : GAct) (y : GPolicy) : spl (GAct.cs x) 8 (GPolicy.cs y) = GAct.cs { x with Opts := y } := rfl
theorem GAct.put_Opts (x : GAct) (y : GPolicy) : spl ((GAct.cs x).map A.c) 8 ((GPolicy.cs y).map A.c) = (GAct.cs { x with Opts := y }).map A.c := rfl
theorem GAct.cut_Opts_Queue (x : GAct) : ((GAct.cs x).drop 8).take 1 = [.str x.Opts.Queue] := rfl
theorem GAct.cat_Opts_Queue (x : GAct) : (((GAct.cs x).map A.c).drop 8).take 1 = [A.c (.str x.Opts.Queue)] := rfl
theorem GAct.pit_Opts_Queue (x : GAct) (y : ByteArray) : spl (GAct.cs x) 8 [.str y] = GAct.cs { x with Opts := { x.Opts with Queue := y } } := rfl
theorem GAct.put_Opts_Queue (x : GAct) (y : ByteArray) : spl ((GAct.cs x).map A.c) 8 [A.c (.str y)] = (GAct.cs { x with Opts := { x.Opts with Queue := y } }).map A.c := rfl
theorem GAct.cut_Opts_ToStart (x : GAct) : ((GAct.cs x).drop 9).take 1 = [.int .i64 x.Opts.ToStart] := rfl
theorem GAct.cat_Opts_ToStart (x : GAct) : (((GAct.cs x).map A.c).drop 9).take 1 = [A.c (.int .i64 x.Opts.ToStart)] := rfl
theorem GAct.pit_Opts_ToStart (x : GAct) (y : Int) : spl (GAct.cs x) 9 [.int .i64 y] = GAct.cs { x with Opts := { x.Opts with ToStart := y } } := rfl
theorem GAct.put_Opts_ToStart (x : GAct) (y : Int) : spl ((GAct.cs x).map A.c) 9 [A.c (.int .i64 y)] = (GAct.cs { x with Opts := { x.Opts with ToStart := y } }).map A.c := rfl
theorem GAct.cut_Opts_ToClose (x : GAct) : ((GAct.cs x).drop 10).take 1 = [.int .i64 x.Opts.ToClose] := rfl
theorem GAct.cat_Opts_ToClose (x : GAct) : (((GAct.cs x).map A.c).drop 10).take 1 = [A.c (.int .i64 x.Opts.ToClose)] := rfl
theorem GAct.pit_Opts_ToClose (x : GAct) (y : Int) : spl (GAct.cs x) 10 [.int .i64 y] = GAct.cs { x with Opts := { x.Opts with ToClose := y } } := rfl
theorem GAct.put_Opts_ToClose (x : GAct) (y : Int) : spl ((GAct.cs x).map A.c) 10 [A.c (.int .i64 y)] = (GAct.cs { x with Opts := { x.Opts with ToClose := y } }).map A.c := rfl
theorem GAct.cut_Opts_Total (x : GAct) : ((GAct.cs x).drop 11).take 1 = [.int .i64 x.Opts.Total] := rfl
theorem GAct.cat_Opts_Total (x : GAct) : (((GAct.cs x).map A.c).drop 11).take 1 = [A.c (.int .i64 x.Opts.Total)] := rfl
theorem GAct.pit_Opts_Total (x : GAct) (y : Int) : spl (GAct.cs x) 11 [.int .i64 y] = GAct.cs { x with Opts := { x.Opts with Total := y } } := rfl
theorem GAct.put_Opts_Total (x : GAct) (y : Int) : spl ((GAct.cs x).map A.c) 11 [A.c (.int .i64 y)] = (GAct.cs { x with Opts := { x.Opts with Total := y } }).map A.c := rfl
theorem GAct.cut_Opts_Beat (x : GAct) : ((GAct.cs x).drop 12).take 1 = [.int .i64 x.Opts.Beat] := rfl
theorem GAct.cat_Opts_Beat (x : GAct) : (((GAct.cs x).map A.c).drop 12).take 1 = [A.c (.int .i64 x.Opts.Beat)] := rfl
theorem GAct.pit_Opts_Beat (x : GAct) (y : Int) : spl (GAct.cs x) 12 [.int .i64 y] = GAct.cs { x with Opts := { x.Opts with Beat := y } } := rfl
theorem GAct.put_Opts_Beat (x : GAct) (y : Int) : spl ((GAct.cs x).map A.c) 12 [A.c (.int .i64 y)] = (GAct.cs { x with Opts := { x.Opts with Beat := y } }).map A.c := rfl
theorem GAct.cut_Opts_First (x : GAct) : ((GAct.cs x).drop 13).take 1 = [.int .i64 x.Opts.First] := rfl
theorem GAct.cat_Opts_First (x : GAct) : (((GAct.cs x).map A.c).drop 13).take 1 = [A.c (.int .i64 x.Opts.First)] := rfl
theorem GAct.pit_Opts_First (x : GAct) (y : Int) : spl (GAct.cs x) 13 [.int .i64 y] = GAct.cs { x with Opts := { x.Opts with First := y } } := rfl
theorem GAct.put_Opts_First (x : GAct) (y : Int) : spl ((GAct.cs x).map A.c) 13 [A.c (.int .i64 y)] = (GAct.cs { x with Opts := { x.Opts with First := y } }).map A.c := rfl
theorem GAct.cut_Opts_Coef (x : GAct) : ((GAct.cs x).drop 14).take 1 = [.int .i64 x.Opts.Coef] := rfl
theorem GAct.cat_Opts_Coef (x : GAct) : (((GAct.cs x).map A.c).drop 14).take 1 = [A.c (.int .i64 x.Opts.Coef)] := rfl
theorem GAct.pit_Opts_Coef (x : GAct) (y : Int) : spl (GAct.cs x) 14 [.int .i64 y] = GAct.cs { x with Opts := { x.Opts with Coef := y } } := rfl
theorem GAct.put_Opts_Coef (x : GAct) (y : Int) : spl ((GAct.cs x).map A.c) 14 [A.c (.int .i64 y)] = (GAct.cs { x with Opts := { x.Opts with Coef := y } }).map A.c := rfl
theorem GAct.cut_Opts_Most (x : GAct) : ((GAct.cs x).drop 15).take 1 = [.int .i64 x.Opts.Most] := rfl
theorem GAct.cat_Opts_Most (x : GAct) : (((GAct.cs x).map A.c).drop 15).take 1 = [A.c (.int .i64 x.Opts.Most)] := rfl
theorem GAct.pit_Opts_Most (x : GAct) (y : Int) : spl (GAct.cs x) 15 [.int .i64 y] = GAct.cs { x with Opts := { x.Opts with Most := y } } := rfl
theorem GAct.put_Opts_Most (x : GAct) (y : Int) : spl ((GAct.cs x).map A.c) 15 [A.c (.int .i64 y)] = (GAct.cs { x with Opts := { x.Opts with Most := y } }).map A.c := rfl
theorem GAct.cut_Opts_Attempts (x : GAct) : ((GAct.cs x).drop 16).take 1 = [.int .i64 x.Opts.Attempts] := rfl
theorem GAct.cat_Opts_Attempts (x : GAct) : (((GAct.cs x).map A.c).drop 16).take 1 = [A.c (.int .i64 x.Opts.Attempts)] := rfl
theorem GAct.pit_Opts_Attempts (x : GAct) (y : Int) : spl (GAct.cs x) 16 [.int .i64 y] = GAct.cs { x with Opts := { x.Opts with Attempts := y } } := rfl
theorem GAct.put_Opts_Attempts (x : GAct) (y : Int) : spl ((GAct.cs x).map A.c) 16 [A.c (.int .i64 y)] = (GAct.cs { x with Opts := { x.Opts with Attempts := y } }).map A.c := rfl
theorem GAct.cut_Opts_Fatal (x : GAct) : ((GAct.cs x).drop 17).take 1 = [.sl (x.Opts.Fatal.map strC)] := rfl
theorem GAct.cat_Opts_Fatal (x : GAct) : (((GAct.cs x).map A.c).drop 17).take 1 = [A.c (.sl (x.Opts.Fatal.map strC))] := rfl
theorem GAct.pit_Opts_Fatal (x : GAct) (y : List ByteArray) : spl (GAct.cs x) 17 [.sl (y.map strC)] = GAct.cs { x with Opts := { x.Opts with Fatal := y } } := rfl
theorem GAct.put_Opts_Fatal (x : GAct) (y : List ByteArray) : spl ((GAct.cs x).map A.c) 17 [A.c (.sl (y.map strC))] = (GAct.cs { x with Opts := { x.Opts with Fatal := y } }).map A.c := rfl
theorem GAct.cut_State (x : GAct) : ((GAct.cs x).drop 18).take 1 = [.int .i64 x.State] := rfl
theorem GAct.cat_State (x : GAct) : (((GAct.cs x).map A.c).drop 18).take 1 = [A.c (.int .i64 x.State)] := rfl
theorem GAct.pit_State (x : GAct) (y : Int) : spl (GAct.cs x) 18 [.int .i64 y] = GAct.cs { x with State := y } := rfl
theorem GAct.put_State (x : GAct) (y : Int) : spl ((GAct.cs x).map A.c) 18 [A.c (.int .i64 y)] = (GAct.cs { x with State := y }).map A.c := rfl
theorem GAct.cut_Attempt (x : GAct) : ((GAct.cs x).drop 19).take 1 = [.int .i64 x.Attempt] := rfl
theorem GAct.cat_Attempt (x : GAct) : (((GAct.cs x).map A.c).drop 19).take 1 = [A.c (.int .i64 x.Attempt)] := rfl
theorem GAct.pit_Attempt (x : GAct) (y : Int) : spl (GAct.cs x) 19 [.int .i64 y] = GAct.cs { x with Attempt := y } := rfl
theorem GAct.put_Attempt (x : GAct) (y : Int) : spl ((GAct.cs x).map A.c) 19 [A.c (.int .i64 y)] = (GAct.cs { x with Attempt := y }).map A.c := rfl
theorem GAct.cut_Scheduled (x : GAct) : ((GAct.cs x).drop 20).take 1 = [.int .i64 x.Scheduled] := rfl
theorem GAct.cat_Scheduled (x : GAct) : (((GAct.cs x).map A.c).drop 20).take 1 = [A.c (.int .i64 x.Scheduled)] := rfl
theorem GAct.pit_Scheduled (x : GAct) (y : Int) : spl (GAct.cs x) 20 [.int .i64 y] = GAct.cs { x with Scheduled := y } := rfl
theorem GAct.put_Scheduled (x : GAct) (y : Int) : spl ((GAct.cs x).map A.c) 20 [A.c (.int .i64 y)] = (GAct.cs { x with Scheduled := y }).map A.c := rfl
theorem GAct.cut_Due (x : GAct) : ((GAct.cs x).drop 21).take 1 = [.int .i64 x.Due] := rfl
theorem GAct.cat_Due (x : GAct) : (((GAct.cs x).map A.c).drop 21).take 1 = [A.c (.int .i64 x.Due)] := rfl
theorem GAct.pit_Due (x : GAct) (y : Int) : spl (GAct.cs x) 21 [.int .i64 y] = GAct.cs { x with Due := y } := rfl
theorem GAct.put_Due (x : GAct) (y : Int) : spl ((GAct.cs x).map A.c) 21 [A.c (.int .i64 y)] = (GAct.cs { x with Due := y }).map A.c := rfl
theorem GAct.cut_Started (x : GAct) : ((GAct.cs x).drop 22).take 1 = [.int .i64 x.Started] := rfl
theorem GAct.cat_Started (x : GAct) : (((GAct.cs x).map A.c).drop 22).take 1 = [A.c (.int .i64 x.Started)] := rfl
theorem GAct.pit_Started (x : GAct) (y : Int) : spl (GAct.cs x) 22 [.int .i64 y] = GAct.cs { x with Started := y } := rfl
theorem GAct.put_Started (x : GAct) (y : Int) : spl ((GAct.cs x).map A.c) 22 [A.c (.int .i64 y)] = (GAct.cs { x with Started := y }).map A.c := rfl
theorem GAct.cut_LastBeat (x : GAct) : ((GAct.cs x).drop 23).take 1 = [.int .i64 x.LastBeat] := rfl
theorem GAct.cat_LastBeat (x : GAct) : (((GAct.cs x).map A.c).drop 23).take 1 = [A.c (.int .i64 x.LastBeat)] := rfl
theorem GAct.pit_LastBeat (x : GAct) (y : Int) : spl (GAct.cs x) 23 [.int .i64 y] = GAct.cs { x with LastBeat := y } := rfl
theorem GAct.put_LastBeat (x : GAct) (y : Int) : spl ((GAct.cs x).map A.c) 23 [A.c (.int .i64 y)] = (GAct.cs { x with LastBeat := y }).map A.c := rfl
theorem GAct.cut_Token (x : GAct) : ((GAct.cs x).drop 24).take 1 = [.int .i64 x.Token] := rfl
theorem GAct.cat_Token (x : GAct) : (((GAct.cs x).map A.c).drop 24).take 1 = [A.c (.int .i64 x.Token)] := rfl
theorem GAct.pit_Token (x : GAct) (y : Int) : spl (GAct.cs x) 24 [.int .i64 y] = GAct.cs { x with Token := y } := rfl
theorem GAct.put_Token (x : GAct) (y : Int) : spl ((GAct.cs x).map A.c) 24 [A.c (.int .i64 y)] = (GAct.cs { x with Token := y }).map A.c := rfl
theorem GAct.cut_Cancel (x : GAct) : ((GAct.cs x).drop 25).take 1 = [.bool x.Cancel] := rfl
theorem GAct.cat_Cancel (x : GAct) : (((GAct.cs x).map A.c).drop 25).take 1 = [A.c (.bool x.Cancel)] := rfl
theorem GAct.pit_Cancel (x : GAct) (y : Bool) : spl (GAct.cs x) 25 [.bool y] = GAct.cs { x with Cancel := y } := rfl
theorem GAct.put_Cancel (x : GAct) (y : Bool) : spl ((GAct.cs x).map A.c) 25 [A.c (.bool y)] = (GAct.cs { x with Cancel := y }).map A.c := rfl
theorem GAct.cut_Details (x : GAct) : ((GAct.cs x).drop 26).take 5 = GVal.cs x.Details := rfl
theorem GAct.cat_Details (x : GAct) : (((GAct.cs x).map A.c).drop 26).take 5 = (GVal.cs x.Details).map A.c := rfl
theorem GAct.pit_Details (x : GAct) (y : GVal) : spl (GAct.cs x) 26 (GVal.cs y) = GAct.cs { x with Details := y } := rfl
theorem GAct.put_Details (x : GAct) (y : GVal) : spl ((GAct.cs x).map A.c) 26 ((GVal.cs y).map A.c) = (GAct.cs { x with Details := y }).map A.c := rfl
theorem GAct.cut_Details_Kind (x : GAct) : ((GAct.cs x).drop 26).take 1 = [.int .i64 x.Details.Kind] := rfl
theorem GAct.cat_Details_Kind (x : GAct) : (((GAct.cs x).map A.c).drop 26).take 1 = [A.c (.int .i64 x.Details.Kind)] := rfl
theorem GAct.pit_Details_Kind (x : GAct) (y : Int) : spl (GAct.cs x) 26 [.int .i64 y] = GAct.cs { x with Details := (x.Details.setKind y) } := rfl
theorem GAct.put_Details_Kind (x : GAct) (y : Int) : spl ((GAct.cs x).map A.c) 26 [A.c (.int .i64 y)] = (GAct.cs { x with Details := (x.Details.setKind y) }).map A.c := rfl
theorem GAct.cut_Details_Num (x : GAct) : ((GAct.cs x).drop 27).take 1 = [.int .i64 x.Details.Num] := rfl
theorem GAct.cat_Details_Num (x : GAct) : (((GAct.cs x).map A.c).drop 27).take 1 = [A.c (.int .i64 x.Details.Num)] := rfl
theorem GAct.pit_Details_Num (x : GAct) (y : Int) : spl (GAct.cs x) 27 [.int .i64 y] = GAct.cs { x with Details := (x.Details.setNum y) } := rfl
theorem GAct.put_Details_Num (x : GAct) (y : Int) : spl ((GAct.cs x).map A.c) 27 [A.c (.int .i64 y)] = (GAct.cs { x with Details := (x.Details.setNum y) }).map A.c := rfl
theorem GAct.cut_Details_Text (x : GAct) : ((GAct.cs x).drop 28).take 1 = [.str x.Details.Text] := rfl
theorem GAct.cat_Details_Text (x : GAct) : (((GAct.cs x).map A.c).drop 28).take 1 = [A.c (.str x.Details.Text)] := rfl
theorem GAct.pit_Details_Text (x : GAct) (y : ByteArray) : spl (GAct.cs x) 28 [.str y] = GAct.cs { x with Details := (x.Details.setText y) } := rfl
theorem GAct.put_Details_Text (x : GAct) (y : ByteArray) : spl ((GAct.cs x).map A.c) 28 [A.c (.str y)] = (GAct.cs { x with Details := (x.Details.setText y) }).map A.c := rfl
theorem GAct.cut_Details_Items (x : GAct) : ((GAct.cs x).drop 29).take 1 = [.sl (x.Details.Items.map GVal.cs)] := congrArg (fun z => [C.sl z]) (GVal.css_map _)
theorem GAct.cat_Details_Items (x : GAct) : (((GAct.cs x).map A.c).drop 29).take 1 = [A.c (.sl (x.Details.Items.map GVal.cs))] := congrArg (fun z => [A.c (C.sl z)]) (GVal.css_map _)
theorem GAct.pit_Details_Items (x : GAct) (y : List GVal) : spl (GAct.cs x) 29 [.sl (y.map GVal.cs)] = GAct.cs { x with Details := (x.Details.setItems y) } := by rw [← GVal.css_map]; rfl
theorem GAct.put_Details_Items (x : GAct) (y : List GVal) : spl ((GAct.cs x).map A.c) 29 [A.c (.sl (y.map GVal.cs))] = (GAct.cs { x with Details := (x.Details.setItems y) }).map A.c := by rw [← GVal.css_map]; rfl
theorem GAct.cut_Details_Keys (x : GAct) : ((GAct.cs x).drop 30).take 1 = [.sl (x.Details.Keys.map strC)] := rfl
theorem GAct.cat_Details_Keys (x : GAct) : (((GAct.cs x).map A.c).drop 30).take 1 = [A.c (.sl (x.Details.Keys.map strC))] := rfl
theorem GAct.pit_Details_Keys (x : GAct) (y : List ByteArray) : spl (GAct.cs x) 30 [.sl (y.map strC)] = GAct.cs { x with Details := (x.Details.setKeys y) } := rfl
theorem GAct.put_Details_Keys (x : GAct) (y : List ByteArray) : spl ((GAct.cs x).map A.c) 30 [A.c (.sl (y.map strC))] = (GAct.cs { x with Details := (x.Details.setKeys y) }).map A.c := rfl
theorem GAct.cut_Failure (x : GAct) : ((GAct.cs x).drop 31).take 1 = [.str x.Failure] := rfl
theorem GAct.cat_Failure (x : GAct) : (((GAct.cs x).map A.c).drop 31).take 1 = [A.c (.str x.Failure)] := rfl
theorem GAct.pit_Failure (x : GAct) (y : ByteArray) : spl (GAct.cs x) 31 [.str y] = GAct.cs { x with Failure := y } := rfl
theorem GAct.put_Failure (x : GAct) (y : ByteArray) : spl ((GAct.cs x).map A.c) 31 [A.c (.str y)] = (GAct.cs { x with Failure := y }).map A.c := rfl

structure GFuture where
  State : Int
  Kind : Int
  Seq : Int
  Result : GVal
  deriving Inhabited
def GFuture.cs (x : GFuture) : List C := [.int .i64 x.State, .int .i64 x.Kind, .int .i64 x.Seq] ++ x.Result.cs
theorem GFuture.cs_length (x : GFuture) : (GFuture.cs x).length = 8 := rfl
theorem GFuture.cut_all (x : GFuture) : ((GFuture.cs x).drop 0).take 8 = GFuture.cs x := rfl
theorem GFuture.cut_all' (x : GFuture) : (((GFuture.cs x).map A.c).drop 0).take 8 = (GFuture.cs x).map A.c := rfl
theorem GFuture.cut_tk (x : GFuture) : ((GFuture.cs x).map A.c).take 8 = (GFuture.cs x).map A.c := rfl
theorem GFuture.cut_tk' (x : GFuture) : (GFuture.cs x).take 8 = GFuture.cs x := rfl
theorem GFuture.put_all (x y : GFuture) : spl ((GFuture.cs x).map A.c) 0 ((GFuture.cs y).map A.c) = (GFuture.cs y).map A.c := rfl
theorem GFuture.cut_State (x : GFuture) : ((GFuture.cs x).drop 0).take 1 = [.int .i64 x.State] := rfl
theorem GFuture.cat_State (x : GFuture) : (((GFuture.cs x).map A.c).drop 0).take 1 = [A.c (.int .i64 x.State)] := rfl
theorem GFuture.cit_State (x : GFuture) : ((GFuture.cs x).map A.c).take 1 = [A.c (.int .i64 x.State)] := rfl
theorem GFuture.cot_State (x : GFuture) : (GFuture.cs x).take 1 = [.int .i64 x.State] := rfl
theorem GFuture.pit_State (x : GFuture) (y : Int) : spl (GFuture.cs x) 0 [.int .i64 y] = GFuture.cs { x with State := y } := rfl
theorem GFuture.put_State (x : GFuture) (y : Int) : spl ((GFuture.cs x).map A.c) 0 [A.c (.int .i64 y)] = (GFuture.cs { x with State := y }).map A.c := rfl
theorem GFuture.cut_Kind (x : GFuture) : ((GFuture.cs x).drop 1).take 1 = [.int .i64 x.Kind] := rfl
theorem GFuture.cat_Kind (x : GFuture) : (((GFuture.cs x).map A.c).drop 1).take 1 = [A.c (.int .i64 x.Kind)] := rfl
theorem GFuture.pit_Kind (x : GFuture) (y : Int) : spl (GFuture.cs x) 1 [.int .i64 y] = GFuture.cs { x with Kind := y } := rfl
theorem GFuture.put_Kind (x : GFuture) (y : Int) : spl ((GFuture.cs x).map A.c) 1 [A.c (.int .i64 y)] = (GFuture.cs { x with Kind := y }).map A.c := rfl
theorem GFuture.cut_Seq (x : GFuture) : ((GFuture.cs x).drop 2).take 1 = [.int .i64 x.Seq] := rfl
theorem GFuture.cat_Seq (x : GFuture) : (((GFuture.cs x).map A.c).drop 2).take 1 = [A.c (.int .i64 x.Seq)] := rfl
theorem GFuture.pit_Seq (x : GFuture) (y : Int) : spl (GFuture.cs x) 2 [.int .i64 y] = GFuture.cs { x with Seq := y } := rfl
theorem GFuture.put_Seq (x : GFuture) (y : Int) : spl ((GFuture.cs x).map A.c) 2 [A.c (.int .i64 y)] = (GFuture.cs { x with Seq := y }).map A.c := rfl
theorem GFuture.cut_Result (x : GFuture) : ((GFuture.cs x).drop 3).take 5 = GVal.cs x.Result := rfl
theorem GFuture.cat_Result (x : GFuture) : (((GFuture.cs x).map A.c).drop 3).take 5 = (GVal.cs x.Result).map A.c := rfl
theorem GFuture.pit_Result (x : GFuture) (y : GVal) : spl (GFuture.cs x) 3 (GVal.cs y) = GFuture.cs { x with Result := y } := rfl
theorem GFuture.put_Result (x : GFuture) (y : GVal) : spl ((GFuture.cs x).map A.c) 3 ((GVal.cs y).map A.c) = (GFuture.cs { x with Result := y }).map A.c := rfl
theorem GFuture.cut_Result_Kind (x : GFuture) : ((GFuture.cs x).drop 3).take 1 = [.int .i64 x.Result.Kind] := rfl
theorem GFuture.cat_Result_Kind (x : GFuture) : (((GFuture.cs x).map A.c).drop 3).take 1 = [A.c (.int .i64 x.Result.Kind)] := rfl
theorem GFuture.pit_Result_Kind (x : GFuture) (y : Int) : spl (GFuture.cs x) 3 [.int .i64 y] = GFuture.cs { x with Result := (x.Result.setKind y) } := rfl
theorem GFuture.put_Result_Kind (x : GFuture) (y : Int) : spl ((GFuture.cs x).map A.c) 3 [A.c (.int .i64 y)] = (GFuture.cs { x with Result := (x.Result.setKind y) }).map A.c := rfl
theorem GFuture.cut_Result_Num (x : GFuture) : ((GFuture.cs x).drop 4).take 1 = [.int .i64 x.Result.Num] := rfl
theorem GFuture.cat_Result_Num (x : GFuture) : (((GFuture.cs x).map A.c).drop 4).take 1 = [A.c (.int .i64 x.Result.Num)] := rfl
theorem GFuture.pit_Result_Num (x : GFuture) (y : Int) : spl (GFuture.cs x) 4 [.int .i64 y] = GFuture.cs { x with Result := (x.Result.setNum y) } := rfl
theorem GFuture.put_Result_Num (x : GFuture) (y : Int) : spl ((GFuture.cs x).map A.c) 4 [A.c (.int .i64 y)] = (GFuture.cs { x with Result := (x.Result.setNum y) }).map A.c := rfl
theorem GFuture.cut_Result_Text (x : GFuture) : ((GFuture.cs x).drop 5).take 1 = [.str x.Result.Text] := rfl
theorem GFuture.cat_Result_Text (x : GFuture) : (((GFuture.cs x).map A.c).drop 5).take 1 = [A.c (.str x.Result.Text)] := rfl
theorem GFuture.pit_Result_Text (x : GFuture) (y : ByteArray) : spl (GFuture.cs x) 5 [.str y] = GFuture.cs { x with Result := (x.Result.setText y) } := rfl
theorem GFuture.put_Result_Text (x : GFuture) (y : ByteArray) : spl ((GFuture.cs x).map A.c) 5 [A.c (.str y)] = (GFuture.cs { x with Result := (x.Result.setText y) }).map A.c := rfl
theorem GFuture.cut_Result_Items (x : GFuture) : ((GFuture.cs x).drop 6).take 1 = [.sl (x.Result.Items.map GVal.cs)] := congrArg (fun z => [C.sl z]) (GVal.css_map _)
theorem GFuture.cat_Result_Items (x : GFuture) : (((GFuture.cs x).map A.c).drop 6).take 1 = [A.c (.sl (x.Result.Items.map GVal.cs))] := congrArg (fun z => [A.c (C.sl z)]) (GVal.css_map _)
theorem GFuture.pit_Result_Items (x : GFuture) (y : List GVal) : spl (GFuture.cs x) 6 [.sl (y.map GVal.cs)] = GFuture.cs { x with Result := (x.Result.setItems y) } := by rw [← GVal.css_map]; rfl
theorem GFuture.put_Result_Items (x : GFuture) (y : List GVal) : spl ((GFuture.cs x).map A.c) 6 [A.c (.sl (y.map GVal.cs))] = (GFuture.cs { x with Result := (x.Result.setItems y) }).map A.c := by rw [← GVal.css_map]; rfl
theorem GFuture.cut_Result_Keys (x : GFuture) : ((GFuture.cs x).drop 7).take 1 = [.sl (x.Result.Keys.map strC)] := rfl
theorem GFuture.cat_Result_Keys (x : GFuture) : (((GFuture.cs x).map A.c).drop 7).take 1 = [A.c (.sl (x.Result.Keys.map strC))] := rfl
theorem GFuture.pit_Result_Keys (x : GFuture) (y : List ByteArray) : spl (GFuture.cs x) 7 [.sl (y.map strC)] = GFuture.cs { x with Result := (x.Result.setKeys y) } := rfl
theorem GFuture.put_Result_Keys (x : GFuture) (y : List ByteArray) : spl ((GFuture.cs x).map A.c) 7 [A.c (.sl (y.map strC))] = (GFuture.cs { x with Result := (x.Result.setKeys y) }).map A.c := rfl

structure GTimer where
  Seq : Int
  Event : Int
  Due : Int
  deriving Inhabited
def GTimer.cs (x : GTimer) : List C := [.int .i64 x.Seq, .int .i64 x.Event, .int .i64 x.Due]
theorem GTimer.cs_length (x : GTimer) : (GTimer.cs x).length = 3 := rfl
theorem GTimer.cut_all (x : GTimer) : ((GTimer.cs x).drop 0).take 3 = GTimer.cs x := rfl
theorem GTimer.cut_all' (x : GTimer) : (((GTimer.cs x).map A.c).drop 0).take 3 = (GTimer.cs x).map A.c := rfl
theorem GTimer.cut_tk (x : GTimer) : ((GTimer.cs x).map A.c).take 3 = (GTimer.cs x).map A.c := rfl
theorem GTimer.cut_tk' (x : GTimer) : (GTimer.cs x).take 3 = GTimer.cs x := rfl
theorem GTimer.put_all (x y : GTimer) : spl ((GTimer.cs x).map A.c) 0 ((GTimer.cs y).map A.c) = (GTimer.cs y).map A.c := rfl
theorem GTimer.cut_Seq (x : GTimer) : ((GTimer.cs x).drop 0).take 1 = [.int .i64 x.Seq] := rfl
theorem GTimer.cat_Seq (x : GTimer) : (((GTimer.cs x).map A.c).drop 0).take 1 = [A.c (.int .i64 x.Seq)] := rfl
theorem GTimer.cit_Seq (x : GTimer) : ((GTimer.cs x).map A.c).take 1 = [A.c (.int .i64 x.Seq)] := rfl
theorem GTimer.cot_Seq (x : GTimer) : (GTimer.cs x).take 1 = [.int .i64 x.Seq] := rfl
theorem GTimer.pit_Seq (x : GTimer) (y : Int) : spl (GTimer.cs x) 0 [.int .i64 y] = GTimer.cs { x with Seq := y } := rfl
theorem GTimer.put_Seq (x : GTimer) (y : Int) : spl ((GTimer.cs x).map A.c) 0 [A.c (.int .i64 y)] = (GTimer.cs { x with Seq := y }).map A.c := rfl
theorem GTimer.cut_Event (x : GTimer) : ((GTimer.cs x).drop 1).take 1 = [.int .i64 x.Event] := rfl
theorem GTimer.cat_Event (x : GTimer) : (((GTimer.cs x).map A.c).drop 1).take 1 = [A.c (.int .i64 x.Event)] := rfl
theorem GTimer.pit_Event (x : GTimer) (y : Int) : spl (GTimer.cs x) 1 [.int .i64 y] = GTimer.cs { x with Event := y } := rfl
theorem GTimer.put_Event (x : GTimer) (y : Int) : spl ((GTimer.cs x).map A.c) 1 [A.c (.int .i64 y)] = (GTimer.cs { x with Event := y }).map A.c := rfl
theorem GTimer.cut_Due (x : GTimer) : ((GTimer.cs x).drop 2).take 1 = [.int .i64 x.Due] := rfl
theorem GTimer.cat_Due (x : GTimer) : (((GTimer.cs x).map A.c).drop 2).take 1 = [A.c (.int .i64 x.Due)] := rfl
theorem GTimer.pit_Due (x : GTimer) (y : Int) : spl (GTimer.cs x) 2 [.int .i64 y] = GTimer.cs { x with Due := y } := rfl
theorem GTimer.put_Due (x : GTimer) (y : Int) : spl ((GTimer.cs x).map A.c) 2 [A.c (.int .i64 y)] = (GTimer.cs { x with Due := y }).map A.c := rfl

structure GKid where
  Seq : Int
  Event : Int
  Key : ByteArray
  Name : ByteArray
  Policy : Int
  Run : ByteArray
  deriving Inhabited
def GKid.cs (x : GKid) : List C := [.int .i64 x.Seq, .int .i64 x.Event, .str x.Key, .str x.Name, .int .i64 x.Policy, .str x.Run]
theorem GKid.cs_length (x : GKid) : (GKid.cs x).length = 6 := rfl
theorem GKid.cut_all (x : GKid) : ((GKid.cs x).drop 0).take 6 = GKid.cs x := rfl
theorem GKid.cut_all' (x : GKid) : (((GKid.cs x).map A.c).drop 0).take 6 = (GKid.cs x).map A.c := rfl
theorem GKid.cut_tk (x : GKid) : ((GKid.cs x).map A.c).take 6 = (GKid.cs x).map A.c := rfl
theorem GKid.cut_tk' (x : GKid) : (GKid.cs x).take 6 = GKid.cs x := rfl
theorem GKid.put_all (x y : GKid) : spl ((GKid.cs x).map A.c) 0 ((GKid.cs y).map A.c) = (GKid.cs y).map A.c := rfl
theorem GKid.cut_Seq (x : GKid) : ((GKid.cs x).drop 0).take 1 = [.int .i64 x.Seq] := rfl
theorem GKid.cat_Seq (x : GKid) : (((GKid.cs x).map A.c).drop 0).take 1 = [A.c (.int .i64 x.Seq)] := rfl
theorem GKid.cit_Seq (x : GKid) : ((GKid.cs x).map A.c).take 1 = [A.c (.int .i64 x.Seq)] := rfl
theorem GKid.cot_Seq (x : GKid) : (GKid.cs x).take 1 = [.int .i64 x.Seq] := rfl
theorem GKid.pit_Seq (x : GKid) (y : Int) : spl (GKid.cs x) 0 [.int .i64 y] = GKid.cs { x with Seq := y } := rfl
theorem GKid.put_Seq (x : GKid) (y : Int) : spl ((GKid.cs x).map A.c) 0 [A.c (.int .i64 y)] = (GKid.cs { x with Seq := y }).map A.c := rfl
theorem GKid.cut_Event (x : GKid) : ((GKid.cs x).drop 1).take 1 = [.int .i64 x.Event] := rfl
theorem GKid.cat_Event (x : GKid) : (((GKid.cs x).map A.c).drop 1).take 1 = [A.c (.int .i64 x.Event)] := rfl
theorem GKid.pit_Event (x : GKid) (y : Int) : spl (GKid.cs x) 1 [.int .i64 y] = GKid.cs { x with Event := y } := rfl
theorem GKid.put_Event (x : GKid) (y : Int) : spl ((GKid.cs x).map A.c) 1 [A.c (.int .i64 y)] = (GKid.cs { x with Event := y }).map A.c := rfl
theorem GKid.cut_Key (x : GKid) : ((GKid.cs x).drop 2).take 1 = [.str x.Key] := rfl
theorem GKid.cat_Key (x : GKid) : (((GKid.cs x).map A.c).drop 2).take 1 = [A.c (.str x.Key)] := rfl
theorem GKid.pit_Key (x : GKid) (y : ByteArray) : spl (GKid.cs x) 2 [.str y] = GKid.cs { x with Key := y } := rfl
theorem GKid.put_Key (x : GKid) (y : ByteArray) : spl ((GKid.cs x).map A.c) 2 [A.c (.str y)] = (GKid.cs { x with Key := y }).map A.c := rfl
theorem GKid.cut_Name (x : GKid) : ((GKid.cs x).drop 3).take 1 = [.str x.Name] := rfl
theorem GKid.cat_Name (x : GKid) : (((GKid.cs x).map A.c).drop 3).take 1 = [A.c (.str x.Name)] := rfl
theorem GKid.pit_Name (x : GKid) (y : ByteArray) : spl (GKid.cs x) 3 [.str y] = GKid.cs { x with Name := y } := rfl
theorem GKid.put_Name (x : GKid) (y : ByteArray) : spl ((GKid.cs x).map A.c) 3 [A.c (.str y)] = (GKid.cs { x with Name := y }).map A.c := rfl
theorem GKid.cut_Policy (x : GKid) : ((GKid.cs x).drop 4).take 1 = [.int .i64 x.Policy] := rfl
theorem GKid.cat_Policy (x : GKid) : (((GKid.cs x).map A.c).drop 4).take 1 = [A.c (.int .i64 x.Policy)] := rfl
theorem GKid.pit_Policy (x : GKid) (y : Int) : spl (GKid.cs x) 4 [.int .i64 y] = GKid.cs { x with Policy := y } := rfl
theorem GKid.put_Policy (x : GKid) (y : Int) : spl ((GKid.cs x).map A.c) 4 [A.c (.int .i64 y)] = (GKid.cs { x with Policy := y }).map A.c := rfl
theorem GKid.cut_Run (x : GKid) : ((GKid.cs x).drop 5).take 1 = [.str x.Run] := rfl
theorem GKid.cat_Run (x : GKid) : (((GKid.cs x).map A.c).drop 5).take 1 = [A.c (.str x.Run)] := rfl
theorem GKid.pit_Run (x : GKid) (y : ByteArray) : spl (GKid.cs x) 5 [.str y] = GKid.cs { x with Run := y } := rfl
theorem GKid.put_Run (x : GKid) (y : ByteArray) : spl ((GKid.cs x).map A.c) 5 [A.c (.str y)] = (GKid.cs { x with Run := y }).map A.c := rfl

structure GSend where
  Seq : Int
  Event : Int
  Key : ByteArray
  Name : ByteArray
  deriving Inhabited
def GSend.cs (x : GSend) : List C := [.int .i64 x.Seq, .int .i64 x.Event, .str x.Key, .str x.Name]
theorem GSend.cs_length (x : GSend) : (GSend.cs x).length = 4 := rfl
theorem GSend.cut_all (x : GSend) : ((GSend.cs x).drop 0).take 4 = GSend.cs x := rfl
theorem GSend.cut_all' (x : GSend) : (((GSend.cs x).map A.c).drop 0).take 4 = (GSend.cs x).map A.c := rfl
theorem GSend.cut_tk (x : GSend) : ((GSend.cs x).map A.c).take 4 = (GSend.cs x).map A.c := rfl
theorem GSend.cut_tk' (x : GSend) : (GSend.cs x).take 4 = GSend.cs x := rfl
theorem GSend.put_all (x y : GSend) : spl ((GSend.cs x).map A.c) 0 ((GSend.cs y).map A.c) = (GSend.cs y).map A.c := rfl
theorem GSend.cut_Seq (x : GSend) : ((GSend.cs x).drop 0).take 1 = [.int .i64 x.Seq] := rfl
theorem GSend.cat_Seq (x : GSend) : (((GSend.cs x).map A.c).drop 0).take 1 = [A.c (.int .i64 x.Seq)] := rfl
theorem GSend.cit_Seq (x : GSend) : ((GSend.cs x).map A.c).take 1 = [A.c (.int .i64 x.Seq)] := rfl
theorem GSend.cot_Seq (x : GSend) : (GSend.cs x).take 1 = [.int .i64 x.Seq] := rfl
theorem GSend.pit_Seq (x : GSend) (y : Int) : spl (GSend.cs x) 0 [.int .i64 y] = GSend.cs { x with Seq := y } := rfl
theorem GSend.put_Seq (x : GSend) (y : Int) : spl ((GSend.cs x).map A.c) 0 [A.c (.int .i64 y)] = (GSend.cs { x with Seq := y }).map A.c := rfl
theorem GSend.cut_Event (x : GSend) : ((GSend.cs x).drop 1).take 1 = [.int .i64 x.Event] := rfl
theorem GSend.cat_Event (x : GSend) : (((GSend.cs x).map A.c).drop 1).take 1 = [A.c (.int .i64 x.Event)] := rfl
theorem GSend.pit_Event (x : GSend) (y : Int) : spl (GSend.cs x) 1 [.int .i64 y] = GSend.cs { x with Event := y } := rfl
theorem GSend.put_Event (x : GSend) (y : Int) : spl ((GSend.cs x).map A.c) 1 [A.c (.int .i64 y)] = (GSend.cs { x with Event := y }).map A.c := rfl
theorem GSend.cut_Key (x : GSend) : ((GSend.cs x).drop 2).take 1 = [.str x.Key] := rfl
theorem GSend.cat_Key (x : GSend) : (((GSend.cs x).map A.c).drop 2).take 1 = [A.c (.str x.Key)] := rfl
theorem GSend.pit_Key (x : GSend) (y : ByteArray) : spl (GSend.cs x) 2 [.str y] = GSend.cs { x with Key := y } := rfl
theorem GSend.put_Key (x : GSend) (y : ByteArray) : spl ((GSend.cs x).map A.c) 2 [A.c (.str y)] = (GSend.cs { x with Key := y }).map A.c := rfl
theorem GSend.cut_Name (x : GSend) : ((GSend.cs x).drop 3).take 1 = [.str x.Name] := rfl
theorem GSend.cat_Name (x : GSend) : (((GSend.cs x).map A.c).drop 3).take 1 = [A.c (.str x.Name)] := rfl
theorem GSend.pit_Name (x : GSend) (y : ByteArray) : spl (GSend.cs x) 3 [.str y] = GSend.cs { x with Name := y } := rfl
theorem GSend.put_Name (x : GSend) (y : ByteArray) : spl ((GSend.cs x).map A.c) 3 [A.c (.str y)] = (GSend.cs { x with Name := y }).map A.c := rfl

structure GUpd where
  Key : ByteArray
  Done : Bool
  deriving Inhabited
def GUpd.cs (x : GUpd) : List C := [.str x.Key, .bool x.Done]
theorem GUpd.cs_length (x : GUpd) : (GUpd.cs x).length = 2 := rfl
theorem GUpd.cut_all (x : GUpd) : ((GUpd.cs x).drop 0).take 2 = GUpd.cs x := rfl
theorem GUpd.cut_all' (x : GUpd) : (((GUpd.cs x).map A.c).drop 0).take 2 = (GUpd.cs x).map A.c := rfl
theorem GUpd.cut_tk (x : GUpd) : ((GUpd.cs x).map A.c).take 2 = (GUpd.cs x).map A.c := rfl
theorem GUpd.cut_tk' (x : GUpd) : (GUpd.cs x).take 2 = GUpd.cs x := rfl
theorem GUpd.put_all (x y : GUpd) : spl ((GUpd.cs x).map A.c) 0 ((GUpd.cs y).map A.c) = (GUpd.cs y).map A.c := rfl
theorem GUpd.cut_Key (x : GUpd) : ((GUpd.cs x).drop 0).take 1 = [.str x.Key] := rfl
theorem GUpd.cat_Key (x : GUpd) : (((GUpd.cs x).map A.c).drop 0).take 1 = [A.c (.str x.Key)] := rfl
theorem GUpd.cit_Key (x : GUpd) : ((GUpd.cs x).map A.c).take 1 = [A.c (.str x.Key)] := rfl
theorem GUpd.cot_Key (x : GUpd) : (GUpd.cs x).take 1 = [.str x.Key] := rfl
theorem GUpd.pit_Key (x : GUpd) (y : ByteArray) : spl (GUpd.cs x) 0 [.str y] = GUpd.cs { x with Key := y } := rfl
theorem GUpd.put_Key (x : GUpd) (y : ByteArray) : spl ((GUpd.cs x).map A.c) 0 [A.c (.str y)] = (GUpd.cs { x with Key := y }).map A.c := rfl
theorem GUpd.cut_Done (x : GUpd) : ((GUpd.cs x).drop 1).take 1 = [.bool x.Done] := rfl
theorem GUpd.cat_Done (x : GUpd) : (((GUpd.cs x).map A.c).drop 1).take 1 = [A.c (.bool x.Done)] := rfl
theorem GUpd.pit_Done (x : GUpd) (y : Bool) : spl (GUpd.cs x) 1 [.bool y] = GUpd.cs { x with Done := y } := rfl
theorem GUpd.put_Done (x : GUpd) (y : Bool) : spl ((GUpd.cs x).map A.c) 1 [A.c (.bool y)] = (GUpd.cs { x with Done := y }).map A.c := rfl

structure GPending where
  Next : Int
  Status : Int
  Task : Int
  TaskID : Int
  Attempt : Int
  Seq : Int
  Name : ByteArray
  Input : GVal
  Attrs : GVal
  Cancel : Bool
  Acts : List GAct
  Timers : List GTimer
  Kids : List GKid
  Sends : List GSend
  Updates : List GUpd
  Requests : List ByteArray
  deriving Inhabited
def GPending.cs (x : GPending) : List C := [.int .i64 x.Next, .int .i64 x.Status, .int .i64 x.Task, .int .i64 x.TaskID, .int .i64 x.Attempt, .int .i64 x.Seq, .str x.Name] ++ (x.Input.cs ++ (x.Attrs.cs ++ [.bool x.Cancel, .sl (x.Acts.map GAct.cs), .sl (x.Timers.map GTimer.cs), .sl (x.Kids.map GKid.cs), .sl (x.Sends.map GSend.cs), .sl (x.Updates.map GUpd.cs), .sl (x.Requests.map strC)]))
theorem GPending.cs_length (x : GPending) : (GPending.cs x).length = 24 := rfl
theorem GPending.cut_all (x : GPending) : ((GPending.cs x).drop 0).take 24 = GPending.cs x := rfl
theorem GPending.cut_all' (x : GPending) : (((GPending.cs x).map A.c).drop 0).take 24 = (GPending.cs x).map A.c := rfl
theorem GPending.cut_tk (x : GPending) : ((GPending.cs x).map A.c).take 24 = (GPending.cs x).map A.c := rfl
theorem GPending.cut_tk' (x : GPending) : (GPending.cs x).take 24 = GPending.cs x := rfl
theorem GPending.put_all (x y : GPending) : spl ((GPending.cs x).map A.c) 0 ((GPending.cs y).map A.c) = (GPending.cs y).map A.c := rfl
theorem GPending.cut_Next (x : GPending) : ((GPending.cs x).drop 0).take 1 = [.int .i64 x.Next] := rfl
theorem GPending.cat_Next (x : GPending) : (((GPending.cs x).map A.c).drop 0).take 1 = [A.c (.int .i64 x.Next)] := rfl
theorem GPending.cit_Next (x : GPending) : ((GPending.cs x).map A.c).take 1 = [A.c (.int .i64 x.Next)] := rfl
theorem GPending.cot_Next (x : GPending) : (GPending.cs x).take 1 = [.int .i64 x.Next] := rfl
theorem GPending.pit_Next (x : GPending) (y : Int) : spl (GPending.cs x) 0 [.int .i64 y] = GPending.cs { x with Next := y } := rfl
theorem GPending.put_Next (x : GPending) (y : Int) : spl ((GPending.cs x).map A.c) 0 [A.c (.int .i64 y)] = (GPending.cs { x with Next := y }).map A.c := rfl
theorem GPending.cut_Status (x : GPending) : ((GPending.cs x).drop 1).take 1 = [.int .i64 x.Status] := rfl
theorem GPending.cat_Status (x : GPending) : (((GPending.cs x).map A.c).drop 1).take 1 = [A.c (.int .i64 x.Status)] := rfl
theorem GPending.pit_Status (x : GPending) (y : Int) : spl (GPending.cs x) 1 [.int .i64 y] = GPending.cs { x with Status := y } := rfl
theorem GPending.put_Status (x : GPending) (y : Int) : spl ((GPending.cs x).map A.c) 1 [A.c (.int .i64 y)] = (GPending.cs { x with Status := y }).map A.c := rfl
theorem GPending.cut_Task (x : GPending) : ((GPending.cs x).drop 2).take 1 = [.int .i64 x.Task] := rfl
theorem GPending.cat_Task (x : GPending) : (((GPending.cs x).map A.c).drop 2).take 1 = [A.c (.int .i64 x.Task)] := rfl
theorem GPending.pit_Task (x : GPending) (y : Int) : spl (GPending.cs x) 2 [.int .i64 y] = GPending.cs { x with Task := y } := rfl
theorem GPending.put_Task (x : GPending) (y : Int) : spl ((GPending.cs x).map A.c) 2 [A.c (.int .i64 y)] = (GPending.cs { x with Task := y }).map A.c := rfl
theorem GPending.cut_TaskID (x : GPending) : ((GPending.cs x).drop 3).take 1 = [.int .i64 x.TaskID] := rfl
theorem GPending.cat_TaskID (x : GPending) : (((GPending.cs x).map A.c).drop 3).take 1 = [A.c (.int .i64 x.TaskID)] := rfl
theorem GPending.pit_TaskID (x : GPending) (y : Int) : spl (GPending.cs x) 3 [.int .i64 y] = GPending.cs { x with TaskID := y } := rfl
theorem GPending.put_TaskID (x : GPending) (y : Int) : spl ((GPending.cs x).map A.c) 3 [A.c (.int .i64 y)] = (GPending.cs { x with TaskID := y }).map A.c := rfl
theorem GPending.cut_Attempt (x : GPending) : ((GPending.cs x).drop 4).take 1 = [.int .i64 x.Attempt] := rfl
theorem GPending.cat_Attempt (x : GPending) : (((GPending.cs x).map A.c).drop 4).take 1 = [A.c (.int .i64 x.Attempt)] := rfl
theorem GPending.pit_Attempt (x : GPending) (y : Int) : spl (GPending.cs x) 4 [.int .i64 y] = GPending.cs { x with Attempt := y } := rfl
theorem GPending.put_Attempt (x : GPending) (y : Int) : spl ((GPending.cs x).map A.c) 4 [A.c (.int .i64 y)] = (GPending.cs { x with Attempt := y }).map A.c := rfl
theorem GPending.cut_Seq (x : GPending) : ((GPending.cs x).drop 5).take 1 = [.int .i64 x.Seq] := rfl
theorem GPending.cat_Seq (x : GPending) : (((GPending.cs x).map A.c).drop 5).take 1 = [A.c (.int .i64 x.Seq)] := rfl
theorem GPending.pit_Seq (x : GPending) (y : Int) : spl (GPending.cs x) 5 [.int .i64 y] = GPending.cs { x with Seq := y } := rfl
theorem GPending.put_Seq (x : GPending) (y : Int) : spl ((GPending.cs x).map A.c) 5 [A.c (.int .i64 y)] = (GPending.cs { x with Seq := y }).map A.c := rfl
theorem GPending.cut_Name (x : GPending) : ((GPending.cs x).drop 6).take 1 = [.str x.Name] := rfl
theorem GPending.cat_Name (x : GPending) : (((GPending.cs x).map A.c).drop 6).take 1 = [A.c (.str x.Name)] := rfl
theorem GPending.pit_Name (x : GPending) (y : ByteArray) : spl (GPending.cs x) 6 [.str y] = GPending.cs { x with Name := y } := rfl
theorem GPending.put_Name (x : GPending) (y : ByteArray) : spl ((GPending.cs x).map A.c) 6 [A.c (.str y)] = (GPending.cs { x with Name := y }).map A.c := rfl
theorem GPending.cut_Input (x : GPending) : ((GPending.cs x).drop 7).take 5 = GVal.cs x.Input := rfl
theorem GPending.cat_Input (x : GPending) : (((GPending.cs x).map A.c).drop 7).take 5 = (GVal.cs x.Input).map A.c := rfl
theorem GPending.pit_Input (x : GPending) (y : GVal) : spl (GPending.cs x) 7 (GVal.cs y) = GPending.cs { x with Input := y } := rfl
theorem GPending.put_Input (x : GPending) (y : GVal) : spl ((GPending.cs x).map A.c) 7 ((GVal.cs y).map A.c) = (GPending.cs { x with Input := y }).map A.c := rfl
theorem GPending.cut_Input_Kind (x : GPending) : ((GPending.cs x).drop 7).take 1 = [.int .i64 x.Input.Kind] := rfl
theorem GPending.cat_Input_Kind (x : GPending) : (((GPending.cs x).map A.c).drop 7).take 1 = [A.c (.int .i64 x.Input.Kind)] := rfl
theorem GPending.pit_Input_Kind (x : GPending) (y : Int) : spl (GPending.cs x) 7 [.int .i64 y] = GPending.cs { x with Input := (x.Input.setKind y) } := rfl
theorem GPending.put_Input_Kind (x : GPending) (y : Int) : spl ((GPending.cs x).map A.c) 7 [A.c (.int .i64 y)] = (GPending.cs { x with Input := (x.Input.setKind y) }).map A.c := rfl
theorem GPending.cut_Input_Num (x : GPending) : ((GPending.cs x).drop 8).take 1 = [.int .i64 x.Input.Num] := rfl
theorem GPending.cat_Input_Num (x : GPending) : (((GPending.cs x).map A.c).drop 8).take 1 = [A.c (.int .i64 x.Input.Num)] := rfl
theorem GPending.pit_Input_Num (x : GPending) (y : Int) : spl (GPending.cs x) 8 [.int .i64 y] = GPending.cs { x with Input := (x.Input.setNum y) } := rfl
theorem GPending.put_Input_Num (x : GPending) (y : Int) : spl ((GPending.cs x).map A.c) 8 [A.c (.int .i64 y)] = (GPending.cs { x with Input := (x.Input.setNum y) }).map A.c := rfl
theorem GPending.cut_Input_Text (x : GPending) : ((GPending.cs x).drop 9).take 1 = [.str x.Input.Text] := rfl
theorem GPending.cat_Input_Text (x : GPending) : (((GPending.cs x).map A.c).drop 9).take 1 = [A.c (.str x.Input.Text)] := rfl
theorem GPending.pit_Input_Text (x : GPending) (y : ByteArray) : spl (GPending.cs x) 9 [.str y] = GPending.cs { x with Input := (x.Input.setText y) } := rfl
theorem GPending.put_Input_Text (x : GPending) (y : ByteArray) : spl ((GPending.cs x).map A.c) 9 [A.c (.str y)] = (GPending.cs { x with Input := (x.Input.setText y) }).map A.c := rfl
theorem GPending.cut_Input_Items (x : GPending) : ((GPending.cs x).drop 10).take 1 = [.sl (x.Input.Items.map GVal.cs)] := congrArg (fun z => [C.sl z]) (GVal.css_map _)
theorem GPending.cat_Input_Items (x : GPending) : (((GPending.cs x).map A.c).drop 10).take 1 = [A.c (.sl (x.Input.Items.map GVal.cs))] := congrArg (fun z => [A.c (C.sl z)]) (GVal.css_map _)
theorem GPending.pit_Input_Items (x : GPending) (y : List GVal) : spl (GPending.cs x) 10 [.sl (y.map GVal.cs)] = GPending.cs { x with Input := (x.Input.setItems y) } := by rw [← GVal.css_map]; rfl
theorem GPending.put_Input_Items (x : GPending) (y : List GVal) : spl ((GPending.cs x).map A.c) 10 [A.c (.sl (y.map GVal.cs))] = (GPending.cs { x with Input := (x.Input.setItems y) }).map A.c := by rw [← GVal.css_map]; rfl
theorem GPending.cut_Input_Keys (x : GPending) : ((GPending.cs x).drop 11).take 1 = [.sl (x.Input.Keys.map strC)] := rfl
theorem GPending.cat_Input_Keys (x : GPending) : (((GPending.cs x).map A.c).drop 11).take 1 = [A.c (.sl (x.Input.Keys.map strC))] := rfl
theorem GPending.pit_Input_Keys (x : GPending) (y : List ByteArray) : spl (GPending.cs x) 11 [.sl (y.map strC)] = GPending.cs { x with Input := (x.Input.setKeys y) } := rfl
theorem GPending.put_Input_Keys (x : GPending) (y : List ByteArray) : spl ((GPending.cs x).map A.c) 11 [A.c (.sl (y.map strC))] = (GPending.cs { x with Input := (x.Input.setKeys y) }).map A.c := rfl
theorem GPending.cut_Attrs (x : GPending) : ((GPending.cs x).drop 12).take 5 = GVal.cs x.Attrs := rfl
theorem GPending.cat_Attrs (x : GPending) : (((GPending.cs x).map A.c).drop 12).take 5 = (GVal.cs x.Attrs).map A.c := rfl
theorem GPending.pit_Attrs (x : GPending) (y : GVal) : spl (GPending.cs x) 12 (GVal.cs y) = GPending.cs { x with Attrs := y } := rfl
theorem GPending.put_Attrs (x : GPending) (y : GVal) : spl ((GPending.cs x).map A.c) 12 ((GVal.cs y).map A.c) = (GPending.cs { x with Attrs := y }).map A.c := rfl
theorem GPending.cut_Attrs_Kind (x : GPending) : ((GPending.cs x).drop 12).take 1 = [.int .i64 x.Attrs.Kind] := rfl
theorem GPending.cat_Attrs_Kind (x : GPending) : (((GPending.cs x).map A.c).drop 12).take 1 = [A.c (.int .i64 x.Attrs.Kind)] := rfl
theorem GPending.pit_Attrs_Kind (x : GPending) (y : Int) : spl (GPending.cs x) 12 [.int .i64 y] = GPending.cs { x with Attrs := (x.Attrs.setKind y) } := rfl
theorem GPending.put_Attrs_Kind (x : GPending) (y : Int) : spl ((GPending.cs x).map A.c) 12 [A.c (.int .i64 y)] = (GPending.cs { x with Attrs := (x.Attrs.setKind y) }).map A.c := rfl
theorem GPending.cut_Attrs_Num (x : GPending) : ((GPending.cs x).drop 13).take 1 = [.int .i64 x.Attrs.Num] := rfl
theorem GPending.cat_Attrs_Num (x : GPending) : (((GPending.cs x).map A.c).drop 13).take 1 = [A.c (.int .i64 x.Attrs.Num)] := rfl
theorem GPending.pit_Attrs_Num (x : GPending) (y : Int) : spl (GPending.cs x) 13 [.int .i64 y] = GPending.cs { x with Attrs := (x.Attrs.setNum y) } := rfl
theorem GPending.put_Attrs_Num (x : GPending) (y : Int) : spl ((GPending.cs x).map A.c) 13 [A.c (.int .i64 y)] = (GPending.cs { x with Attrs := (x.Attrs.setNum y) }).map A.c := rfl
theorem GPending.cut_Attrs_Text (x : GPending) : ((GPending.cs x).drop 14).take 1 = [.str x.Attrs.Text] := rfl
theorem GPending.cat_Attrs_Text (x : GPending) : (((GPending.cs x).map A.c).drop 14).take 1 = [A.c (.str x.Attrs.Text)] := rfl
theorem GPending.pit_Attrs_Text (x : GPending) (y : ByteArray) : spl (GPending.cs x) 14 [.str y] = GPending.cs { x with Attrs := (x.Attrs.setText y) } := rfl
theorem GPending.put_Attrs_Text (x : GPending) (y : ByteArray) : spl ((GPending.cs x).map A.c) 14 [A.c (.str y)] = (GPending.cs { x with Attrs := (x.Attrs.setText y) }).map A.c := rfl
theorem GPending.cut_Attrs_Items (x : GPending) : ((GPending.cs x).drop 15).take 1 = [.sl (x.Attrs.Items.map GVal.cs)] := congrArg (fun z => [C.sl z]) (GVal.css_map _)
theorem GPending.cat_Attrs_Items (x : GPending) : (((GPending.cs x).map A.c).drop 15).take 1 = [A.c (.sl (x.Attrs.Items.map GVal.cs))] := congrArg (fun z => [A.c (C.sl z)]) (GVal.css_map _)
theorem GPending.pit_Attrs_Items (x : GPending) (y : List GVal) : spl (GPending.cs x) 15 [.sl (y.map GVal.cs)] = GPending.cs { x with Attrs := (x.Attrs.setItems y) } := by rw [← GVal.css_map]; rfl
theorem GPending.put_Attrs_Items (x : GPending) (y : List GVal) : spl ((GPending.cs x).map A.c) 15 [A.c (.sl (y.map GVal.cs))] = (GPending.cs { x with Attrs := (x.Attrs.setItems y) }).map A.c := by rw [← GVal.css_map]; rfl
theorem GPending.cut_Attrs_Keys (x : GPending) : ((GPending.cs x).drop 16).take 1 = [.sl (x.Attrs.Keys.map strC)] := rfl
theorem GPending.cat_Attrs_Keys (x : GPending) : (((GPending.cs x).map A.c).drop 16).take 1 = [A.c (.sl (x.Attrs.Keys.map strC))] := rfl
theorem GPending.pit_Attrs_Keys (x : GPending) (y : List ByteArray) : spl (GPending.cs x) 16 [.sl (y.map strC)] = GPending.cs { x with Attrs := (x.Attrs.setKeys y) } := rfl
theorem GPending.put_Attrs_Keys (x : GPending) (y : List ByteArray) : spl ((GPending.cs x).map A.c) 16 [A.c (.sl (y.map strC))] = (GPending.cs { x with Attrs := (x.Attrs.setKeys y) }).map A.c := rfl
theorem GPending.cut_Cancel (x : GPending) : ((GPending.cs x).drop 17).take 1 = [.bool x.Cancel] := rfl
theorem GPending.cat_Cancel (x : GPending) : (((GPending.cs x).map A.c).drop 17).take 1 = [A.c (.bool x.Cancel)] := rfl
theorem GPending.pit_Cancel (x : GPending) (y : Bool) : spl (GPending.cs x) 17 [.bool y] = GPending.cs { x with Cancel := y } := rfl
theorem GPending.put_Cancel (x : GPending) (y : Bool) : spl ((GPending.cs x).map A.c) 17 [A.c (.bool y)] = (GPending.cs { x with Cancel := y }).map A.c := rfl
theorem GPending.cut_Acts (x : GPending) : ((GPending.cs x).drop 18).take 1 = [.sl (x.Acts.map GAct.cs)] := rfl
theorem GPending.cat_Acts (x : GPending) : (((GPending.cs x).map A.c).drop 18).take 1 = [A.c (.sl (x.Acts.map GAct.cs))] := rfl
theorem GPending.pit_Acts (x : GPending) (y : List GAct) : spl (GPending.cs x) 18 [.sl (y.map GAct.cs)] = GPending.cs { x with Acts := y } := rfl
theorem GPending.put_Acts (x : GPending) (y : List GAct) : spl ((GPending.cs x).map A.c) 18 [A.c (.sl (y.map GAct.cs))] = (GPending.cs { x with Acts := y }).map A.c := rfl
theorem GPending.cut_Timers (x : GPending) : ((GPending.cs x).drop 19).take 1 = [.sl (x.Timers.map GTimer.cs)] := rfl
theorem GPending.cat_Timers (x : GPending) : (((GPending.cs x).map A.c).drop 19).take 1 = [A.c (.sl (x.Timers.map GTimer.cs))] := rfl
theorem GPending.pit_Timers (x : GPending) (y : List GTimer) : spl (GPending.cs x) 19 [.sl (y.map GTimer.cs)] = GPending.cs { x with Timers := y } := rfl
theorem GPending.put_Timers (x : GPending) (y : List GTimer) : spl ((GPending.cs x).map A.c) 19 [A.c (.sl (y.map GTimer.cs))] = (GPending.cs { x with Timers := y }).map A.c := rfl
theorem GPending.cut_Kids (x : GPending) : ((GPending.cs x).drop 20).take 1 = [.sl (x.Kids.map GKid.cs)] := rfl
theorem GPending.cat_Kids (x : GPending) : (((GPending.cs x).map A.c).drop 20).take 1 = [A.c (.sl (x.Kids.map GKid.cs))] := rfl
theorem GPending.pit_Kids (x : GPending) (y : List GKid) : spl (GPending.cs x) 20 [.sl (y.map GKid.cs)] = GPending.cs { x with Kids := y } := rfl
theorem GPending.put_Kids (x : GPending) (y : List GKid) : spl ((GPending.cs x).map A.c) 20 [A.c (.sl (y.map GKid.cs))] = (GPending.cs { x with Kids := y }).map A.c := rfl
theorem GPending.cut_Sends (x : GPending) : ((GPending.cs x).drop 21).take 1 = [.sl (x.Sends.map GSend.cs)] := rfl
theorem GPending.cat_Sends (x : GPending) : (((GPending.cs x).map A.c).drop 21).take 1 = [A.c (.sl (x.Sends.map GSend.cs))] := rfl
theorem GPending.pit_Sends (x : GPending) (y : List GSend) : spl (GPending.cs x) 21 [.sl (y.map GSend.cs)] = GPending.cs { x with Sends := y } := rfl
theorem GPending.put_Sends (x : GPending) (y : List GSend) : spl ((GPending.cs x).map A.c) 21 [A.c (.sl (y.map GSend.cs))] = (GPending.cs { x with Sends := y }).map A.c := rfl
theorem GPending.cut_Updates (x : GPending) : ((GPending.cs x).drop 22).take 1 = [.sl (x.Updates.map GUpd.cs)] := rfl
theorem GPending.cat_Updates (x : GPending) : (((GPending.cs x).map A.c).drop 22).take 1 = [A.c (.sl (x.Updates.map GUpd.cs))] := rfl
theorem GPending.pit_Updates (x : GPending) (y : List GUpd) : spl (GPending.cs x) 22 [.sl (y.map GUpd.cs)] = GPending.cs { x with Updates := y } := rfl
theorem GPending.put_Updates (x : GPending) (y : List GUpd) : spl ((GPending.cs x).map A.c) 22 [A.c (.sl (y.map GUpd.cs))] = (GPending.cs { x with Updates := y }).map A.c := rfl
theorem GPending.cut_Requests (x : GPending) : ((GPending.cs x).drop 23).take 1 = [.sl (x.Requests.map strC)] := rfl
theorem GPending.cat_Requests (x : GPending) : (((GPending.cs x).map A.c).drop 23).take 1 = [A.c (.sl (x.Requests.map strC))] := rfl
theorem GPending.pit_Requests (x : GPending) (y : List ByteArray) : spl (GPending.cs x) 23 [.sl (y.map strC)] = GPending.cs { x with Requests := y } := rfl
theorem GPending.put_Requests (x : GPending) (y : List ByteArray) : spl ((GPending.cs x).map A.c) 23 [A.c (.sl (y.map strC))] = (GPending.cs { x with Requests := y }).map A.c := rfl

structure GAdmit where
  Key : ByteArray
  Name : ByteArray
  Data : GVal
  deriving Inhabited
def GAdmit.cs (x : GAdmit) : List C := [.str x.Key, .str x.Name] ++ x.Data.cs
theorem GAdmit.cs_length (x : GAdmit) : (GAdmit.cs x).length = 7 := rfl
theorem GAdmit.cut_all (x : GAdmit) : ((GAdmit.cs x).drop 0).take 7 = GAdmit.cs x := rfl
theorem GAdmit.cut_all' (x : GAdmit) : (((GAdmit.cs x).map A.c).drop 0).take 7 = (GAdmit.cs x).map A.c := rfl
theorem GAdmit.cut_tk (x : GAdmit) : ((GAdmit.cs x).map A.c).take 7 = (GAdmit.cs x).map A.c := rfl
theorem GAdmit.cut_tk' (x : GAdmit) : (GAdmit.cs x).take 7 = GAdmit.cs x := rfl
theorem GAdmit.put_all (x y : GAdmit) : spl ((GAdmit.cs x).map A.c) 0 ((GAdmit.cs y).map A.c) = (GAdmit.cs y).map A.c := rfl
theorem GAdmit.cut_Key (x : GAdmit) : ((GAdmit.cs x).drop 0).take 1 = [.str x.Key] := rfl
theorem GAdmit.cat_Key (x : GAdmit) : (((GAdmit.cs x).map A.c).drop 0).take 1 = [A.c (.str x.Key)] := rfl
theorem GAdmit.cit_Key (x : GAdmit) : ((GAdmit.cs x).map A.c).take 1 = [A.c (.str x.Key)] := rfl
theorem GAdmit.cot_Key (x : GAdmit) : (GAdmit.cs x).take 1 = [.str x.Key] := rfl
theorem GAdmit.pit_Key (x : GAdmit) (y : ByteArray) : spl (GAdmit.cs x) 0 [.str y] = GAdmit.cs { x with Key := y } := rfl
theorem GAdmit.put_Key (x : GAdmit) (y : ByteArray) : spl ((GAdmit.cs x).map A.c) 0 [A.c (.str y)] = (GAdmit.cs { x with Key := y }).map A.c := rfl
theorem GAdmit.cut_Name (x : GAdmit) : ((GAdmit.cs x).drop 1).take 1 = [.str x.Name] := rfl
theorem GAdmit.cat_Name (x : GAdmit) : (((GAdmit.cs x).map A.c).drop 1).take 1 = [A.c (.str x.Name)] := rfl
theorem GAdmit.pit_Name (x : GAdmit) (y : ByteArray) : spl (GAdmit.cs x) 1 [.str y] = GAdmit.cs { x with Name := y } := rfl
theorem GAdmit.put_Name (x : GAdmit) (y : ByteArray) : spl ((GAdmit.cs x).map A.c) 1 [A.c (.str y)] = (GAdmit.cs { x with Name := y }).map A.c := rfl
theorem GAdmit.cut_Data (x : GAdmit) : ((GAdmit.cs x).drop 2).take 5 = GVal.cs x.Data := rfl
theorem GAdmit.cat_Data (x : GAdmit) : (((GAdmit.cs x).map A.c).drop 2).take 5 = (GVal.cs x.Data).map A.c := rfl
theorem GAdmit.pit_Data (x : GAdmit) (y : GVal) : spl (GAdmit.cs x) 2 (GVal.cs y) = GAdmit.cs { x with Data := y } := rfl
theorem GAdmit.put_Data (x : GAdmit) (y : GVal) : spl ((GAdmit.cs x).map A.c) 2 ((GVal.cs y).map A.c) = (GAdmit.cs { x with Data := y }).map A.c := rfl
theorem GAdmit.cut_Data_Kind (x : GAdmit) : ((GAdmit.cs x).drop 2).take 1 = [.int .i64 x.Data.Kind] := rfl
theorem GAdmit.cat_Data_Kind (x : GAdmit) : (((GAdmit.cs x).map A.c).drop 2).take 1 = [A.c (.int .i64 x.Data.Kind)] := rfl
theorem GAdmit.pit_Data_Kind (x : GAdmit) (y : Int) : spl (GAdmit.cs x) 2 [.int .i64 y] = GAdmit.cs { x with Data := (x.Data.setKind y) } := rfl
theorem GAdmit.put_Data_Kind (x : GAdmit) (y : Int) : spl ((GAdmit.cs x).map A.c) 2 [A.c (.int .i64 y)] = (GAdmit.cs { x with Data := (x.Data.setKind y) }).map A.c := rfl
theorem GAdmit.cut_Data_Num (x : GAdmit) : ((GAdmit.cs x).drop 3).take 1 = [.int .i64 x.Data.Num] := rfl
theorem GAdmit.cat_Data_Num (x : GAdmit) : (((GAdmit.cs x).map A.c).drop 3).take 1 = [A.c (.int .i64 x.Data.Num)] := rfl
theorem GAdmit.pit_Data_Num (x : GAdmit) (y : Int) : spl (GAdmit.cs x) 3 [.int .i64 y] = GAdmit.cs { x with Data := (x.Data.setNum y) } := rfl
theorem GAdmit.put_Data_Num (x : GAdmit) (y : Int) : spl ((GAdmit.cs x).map A.c) 3 [A.c (.int .i64 y)] = (GAdmit.cs { x with Data := (x.Data.setNum y) }).map A.c := rfl
theorem GAdmit.cut_Data_Text (x : GAdmit) : ((GAdmit.cs x).drop 4).take 1 = [.str x.Data.Text] := rfl
theorem GAdmit.cat_Data_Text (x : GAdmit) : (((GAdmit.cs x).map A.c).drop 4).take 1 = [A.c (.str x.Data.Text)] := rfl
theorem GAdmit.pit_Data_Text (x : GAdmit) (y : ByteArray) : spl (GAdmit.cs x) 4 [.str y] = GAdmit.cs { x with Data := (x.Data.setText y) } := rfl
theorem GAdmit.put_Data_Text (x : GAdmit) (y : ByteArray) : spl ((GAdmit.cs x).map A.c) 4 [A.c (.str y)] = (GAdmit.cs { x with Data := (x.Data.setText y) }).map A.c := rfl
theorem GAdmit.cut_Data_Items (x : GAdmit) : ((GAdmit.cs x).drop 5).take 1 = [.sl (x.Data.Items.map GVal.cs)] := congrArg (fun z => [C.sl z]) (GVal.css_map _)
theorem GAdmit.cat_Data_Items (x : GAdmit) : (((GAdmit.cs x).map A.c).drop 5).take 1 = [A.c (.sl (x.Data.Items.map GVal.cs))] := congrArg (fun z => [A.c (C.sl z)]) (GVal.css_map _)
theorem GAdmit.pit_Data_Items (x : GAdmit) (y : List GVal) : spl (GAdmit.cs x) 5 [.sl (y.map GVal.cs)] = GAdmit.cs { x with Data := (x.Data.setItems y) } := by rw [← GVal.css_map]; rfl
theorem GAdmit.put_Data_Items (x : GAdmit) (y : List GVal) : spl ((GAdmit.cs x).map A.c) 5 [A.c (.sl (y.map GVal.cs))] = (GAdmit.cs { x with Data := (x.Data.setItems y) }).map A.c := by rw [← GVal.css_map]; rfl
theorem GAdmit.cut_Data_Keys (x : GAdmit) : ((GAdmit.cs x).drop 6).take 1 = [.sl (x.Data.Keys.map strC)] := rfl
theorem GAdmit.cat_Data_Keys (x : GAdmit) : (((GAdmit.cs x).map A.c).drop 6).take 1 = [A.c (.sl (x.Data.Keys.map strC))] := rfl
theorem GAdmit.pit_Data_Keys (x : GAdmit) (y : List ByteArray) : spl (GAdmit.cs x) 6 [.sl (y.map strC)] = GAdmit.cs { x with Data := (x.Data.setKeys y) } := rfl
theorem GAdmit.put_Data_Keys (x : GAdmit) (y : List ByteArray) : spl ((GAdmit.cs x).map A.c) 6 [A.c (.sl (y.map strC))] = (GAdmit.cs { x with Data := (x.Data.setKeys y) }).map A.c := rfl

structure GEvent where
  ID : Int
  Kind : Int
  Time : Int
  Seq : Int
  Ref : Int
  N : Int
  Code : Int
  Name : ByteArray
  Key : ByteArray
  Data : GVal
  Opts : GPolicy
  deriving Inhabited
def GEvent.cs (x : GEvent) : List C := [.int .i64 x.ID, .int .i64 x.Kind, .int .i64 x.Time, .int .i64 x.Seq, .int .i64 x.Ref, .int .i64 x.N, .int .i64 x.Code, .str x.Name, .str x.Key] ++ (x.Data.cs ++ x.Opts.cs)
theorem GEvent.cs_length (x : GEvent) : (GEvent.cs x).length = 24 := rfl
theorem GEvent.cut_all (x : GEvent) : ((GEvent.cs x).drop 0).take 24 = GEvent.cs x := rfl
theorem GEvent.cut_all' (x : GEvent) : (((GEvent.cs x).map A.c).drop 0).take 24 = (GEvent.cs x).map A.c := rfl
theorem GEvent.cut_tk (x : GEvent) : ((GEvent.cs x).map A.c).take 24 = (GEvent.cs x).map A.c := rfl
theorem GEvent.cut_tk' (x : GEvent) : (GEvent.cs x).take 24 = GEvent.cs x := rfl
theorem GEvent.put_all (x y : GEvent) : spl ((GEvent.cs x).map A.c) 0 ((GEvent.cs y).map A.c) = (GEvent.cs y).map A.c := rfl
theorem GEvent.cut_ID (x : GEvent) : ((GEvent.cs x).drop 0).take 1 = [.int .i64 x.ID] := rfl
theorem GEvent.cat_ID (x : GEvent) : (((GEvent.cs x).map A.c).drop 0).take 1 = [A.c (.int .i64 x.ID)] := rfl
theorem GEvent.cit_ID (x : GEvent) : ((GEvent.cs x).map A.c).take 1 = [A.c (.int .i64 x.ID)] := rfl
theorem GEvent.cot_ID (x : GEvent) : (GEvent.cs x).take 1 = [.int .i64 x.ID] := rfl
theorem GEvent.pit_ID (x : GEvent) (y : Int) : spl (GEvent.cs x) 0 [.int .i64 y] = GEvent.cs { x with ID := y } := rfl
theorem GEvent.put_ID (x : GEvent) (y : Int) : spl ((GEvent.cs x).map A.c) 0 [A.c (.int .i64 y)] = (GEvent.cs { x with ID := y }).map A.c := rfl
theorem GEvent.cut_Kind (x : GEvent) : ((GEvent.cs x).drop 1).take 1 = [.int .i64 x.Kind] := rfl
theorem GEvent.cat_Kind (x : GEvent) : (((GEvent.cs x).map A.c).drop 1).take 1 = [A.c (.int .i64 x.Kind)] := rfl
theorem GEvent.pit_Kind (x : GEvent) (y : Int) : spl (GEvent.cs x) 1 [.int .i64 y] = GEvent.cs { x with Kind := y } := rfl
theorem GEvent.put_Kind (x : GEvent) (y : Int) : spl ((GEvent.cs x).map A.c) 1 [A.c (.int .i64 y)] = (GEvent.cs { x with Kind := y }).map A.c := rfl
theorem GEvent.cut_Time (x : GEvent) : ((GEvent.cs x).drop 2).take 1 = [.int .i64 x.Time] := rfl
theorem GEvent.cat_Time (x : GEvent) : (((GEvent.cs x).map A.c).drop 2).take 1 = [A.c (.int .i64 x.Time)] := rfl
theorem GEvent.pit_Time (x : GEvent) (y : Int) : spl (GEvent.cs x) 2 [.int .i64 y] = GEvent.cs { x with Time := y } := rfl
theorem GEvent.put_Time (x : GEvent) (y : Int) : spl ((GEvent.cs x).map A.c) 2 [A.c (.int .i64 y)] = (GEvent.cs { x with Time := y }).map A.c := rfl
theorem GEvent.cut_Seq (x : GEvent) : ((GEvent.cs x).drop 3).take 1 = [.int .i64 x.Seq] := rfl
theorem GEvent.cat_Seq (x : GEvent) : (((GEvent.cs x).map A.c).drop 3).take 1 = [A.c (.int .i64 x.Seq)] := rfl
theorem GEvent.pit_Seq (x : GEvent) (y : Int) : spl (GEvent.cs x) 3 [.int .i64 y] = GEvent.cs { x with Seq := y } := rfl
theorem GEvent.put_Seq (x : GEvent) (y : Int) : spl ((GEvent.cs x).map A.c) 3 [A.c (.int .i64 y)] = (GEvent.cs { x with Seq := y }).map A.c := rfl
theorem GEvent.cut_Ref (x : GEvent) : ((GEvent.cs x).drop 4).take 1 = [.int .i64 x.Ref] := rfl
theorem GEvent.cat_Ref (x : GEvent) : (((GEvent.cs x).map A.c).drop 4).take 1 = [A.c (.int .i64 x.Ref)] := rfl
theorem GEvent.pit_Ref (x : GEvent) (y : Int) : spl (GEvent.cs x) 4 [.int .i64 y] = GEvent.cs { x with Ref := y } := rfl
theorem GEvent.put_Ref (x : GEvent) (y : Int) : spl ((GEvent.cs x).map A.c) 4 [A.c (.int .i64 y)] = (GEvent.cs { x with Ref := y }).map A.c := rfl
theorem GEvent.cut_N (x : GEvent) : ((GEvent.cs x).drop 5).take 1 = [.int .i64 x.N] := rfl
theorem GEvent.cat_N (x : GEvent) : (((GEvent.cs x).map A.c).drop 5).take 1 = [A.c (.int .i64 x.N)] := rfl
theorem GEvent.pit_N (x : GEvent) (y : Int) : spl (GEvent.cs x) 5 [.int .i64 y] = GEvent.cs { x with N := y } := rfl
theorem GEvent.put_N (x : GEvent) (y : Int) : spl ((GEvent.cs x).map A.c) 5 [A.c (.int .i64 y)] = (GEvent.cs { x with N := y }).map A.c := rfl
theorem GEvent.cut_Code (x : GEvent) : ((GEvent.cs x).drop 6).take 1 = [.int .i64 x.Code] := rfl
theorem GEvent.cat_Code (x : GEvent) : (((GEvent.cs x).map A.c).drop 6).take 1 = [A.c (.int .i64 x.Code)] := rfl
theorem GEvent.pit_Code (x : GEvent) (y : Int) : spl (GEvent.cs x) 6 [.int .i64 y] = GEvent.cs { x with Code := y } := rfl
theorem GEvent.put_Code (x : GEvent) (y : Int) : spl ((GEvent.cs x).map A.c) 6 [A.c (.int .i64 y)] = (GEvent.cs { x with Code := y }).map A.c := rfl
theorem GEvent.cut_Name (x : GEvent) : ((GEvent.cs x).drop 7).take 1 = [.str x.Name] := rfl
theorem GEvent.cat_Name (x : GEvent) : (((GEvent.cs x).map A.c).drop 7).take 1 = [A.c (.str x.Name)] := rfl
theorem GEvent.pit_Name (x : GEvent) (y : ByteArray) : spl (GEvent.cs x) 7 [.str y] = GEvent.cs { x with Name := y } := rfl
theorem GEvent.put_Name (x : GEvent) (y : ByteArray) : spl ((GEvent.cs x).map A.c) 7 [A.c (.str y)] = (GEvent.cs { x with Name := y }).map A.c := rfl
theorem GEvent.cut_Key (x : GEvent) : ((GEvent.cs x).drop 8).take 1 = [.str x.Key] := rfl
theorem GEvent.cat_Key (x : GEvent) : (((GEvent.cs x).map A.c).drop 8).take 1 = [A.c (.str x.Key)] := rfl
theorem GEvent.pit_Key (x : GEvent) (y : ByteArray) : spl (GEvent.cs x) 8 [.str y] = GEvent.cs { x with Key := y } := rfl
theorem GEvent.put_Key (x : GEvent) (y : ByteArray) : spl ((GEvent.cs x).map A.c) 8 [A.c (.str y)] = (GEvent.cs { x with Key := y }).map A.c := rfl
theorem GEvent.cut_Data (x : GEvent) : ((GEvent.cs x).drop 9).take 5 = GVal.cs x.Data := rfl
theorem GEvent.cat_Data (x : GEvent) : (((GEvent.cs x).map A.c).drop 9).take 5 = (GVal.cs x.Data).map A.c := rfl
theorem GEvent.pit_Data (x : GEvent) (y : GVal) : spl (GEvent.cs x) 9 (GVal.cs y) = GEvent.cs { x with Data := y } := rfl
theorem GEvent.put_Data (x : GEvent) (y : GVal) : spl ((GEvent.cs x).map A.c) 9 ((GVal.cs y).map A.c) = (GEvent.cs { x with Data := y }).map A.c := rfl
theorem GEvent.cut_Data_Kind (x : GEvent) : ((GEvent.cs x).drop 9).take 1 = [.int .i64 x.Data.Kind] := rfl
theorem GEvent.cat_Data_Kind (x : GEvent) : (((GEvent.cs x).map A.c).drop 9).take 1 = [A.c (.int .i64 x.Data.Kind)] := rfl
theorem GEvent.pit_Data_Kind (x : GEvent) (y : Int) : spl (GEvent.cs x) 9 [.int .i64 y] = GEvent.cs { x with Data := (x.Data.setKind y) } := rfl
theorem GEvent.put_Data_Kind (x : GEvent) (y : Int) : spl ((GEvent.cs x).map A.c) 9 [A.c (.int .i64 y)] = (GEvent.cs { x with Data := (x.Data.setKind y) }).map A.c := rfl
theorem GEvent.cut_Data_Num (x : GEvent) : ((GEvent.cs x).drop 10).take 1 = [.int .i64 x.Data.Num] := rfl
theorem GEvent.cat_Data_Num (x : GEvent) : (((GEvent.cs x).map A.c).drop 10).take 1 = [A.c (.int .i64 x.Data.Num)] := rfl
theorem GEvent.pit_Data_Num (x : GEvent) (y : Int) : spl (GEvent.cs x) 10 [.int .i64 y] = GEvent.cs { x with Data := (x.Data.setNum y) } := rfl
theorem GEvent.put_Data_Num (x : GEvent) (y : Int) : spl ((GEvent.cs x).map A.c) 10 [A.c (.int .i64 y)] = (GEvent.cs { x with Data := (x.Data.setNum y) }).map A.c := rfl
theorem GEvent.cut_Data_Text (x : GEvent) : ((GEvent.cs x).drop 11).take 1 = [.str x.Data.Text] := rfl
theorem GEvent.cat_Data_Text (x : GEvent) : (((GEvent.cs x).map A.c).drop 11).take 1 = [A.c (.str x.Data.Text)] := rfl
theorem GEvent.pit_Data_Text (x : GEvent) (y : ByteArray) : spl (GEvent.cs x) 11 [.str y] = GEvent.cs { x with Data := (x.Data.setText y) } := rfl
theorem GEvent.put_Data_Text (x : GEvent) (y : ByteArray) : spl ((GEvent.cs x).map A.c) 11 [A.c (.str y)] = (GEvent.cs { x with Data := (x.Data.setText y) }).map A.c := rfl
theorem GEvent.cut_Data_Items (x : GEvent) : ((GEvent.cs x).drop 12).take 1 = [.sl (x.Data.Items.map GVal.cs)] := congrArg (fun z => [C.sl z]) (GVal.css_map _)
theorem GEvent.cat_Data_Items (x : GEvent) : (((GEvent.cs x).map A.c).drop 12).take 1 = [A.c (.sl (x.Data.Items.map GVal.cs))] := congrArg (fun z => [A.c (C.sl z)]) (GVal.css_map _)
theorem GEvent.pit_Data_Items (x : GEvent) (y : List GVal) : spl (GEvent.cs x) 12 [.sl (y.map GVal.cs)] = GEvent.cs { x with Data := (x.Data.setItems y) } := by rw [← GVal.css_map]; rfl
theorem GEvent.put_Data_Items (x : GEvent) (y : List GVal) : spl ((GEvent.cs x).map A.c) 12 [A.c (.sl (y.map GVal.cs))] = (GEvent.cs { x with Data := (x.Data.setItems y) }).map A.c := by rw [← GVal.css_map]; rfl
theorem GEvent.cut_Data_Keys (x : GEvent) : ((GEvent.cs x).drop 13).take 1 = [.sl (x.Data.Keys.map strC)] := rfl
theorem GEvent.cat_Data_Keys (x : GEvent) : (((GEvent.cs x).map A.c).drop 13).take 1 = [A.c (.sl (x.Data.Keys.map strC))] := rfl
theorem GEvent.pit_Data_Keys (x : GEvent) (y : List ByteArray) : spl (GEvent.cs x) 13 [.sl (y.map strC)] = GEvent.cs { x with Data := (x.Data.setKeys y) } := rfl
theorem GEvent.put_Data_Keys (x : GEvent) (y : List ByteArray) : spl ((GEvent.cs x).map A.c) 13 [A.c (.sl (y.map strC))] = (GEvent.cs { x with Data := (x.Data.setKeys y) }).map A.c := rfl
theorem GEvent.cut_Opts (x : GEvent) : ((GEvent.cs x).drop 14).take 10 = GPolicy.cs x.Opts := rfl
theorem GEvent.cat_Opts (x : GEvent) : (((GEvent.cs x).map A.c).drop 14).take 10 = (GPolicy.cs x.Opts).map A.c := rfl
theorem GEvent.pit_Opts (x : GEvent) (y : GPolicy) : spl (GEvent.cs x) 14 (GPolicy.cs y) = GEvent.cs { x with Opts := y } := rfl
theorem GEvent.put_Opts (x : GEvent) (y : GPolicy) : spl ((GEvent.cs x).map A.c) 14 ((GPolicy.cs y).map A.c) = (GEvent.cs { x with Opts := y }).map A.c := rfl
theorem GEvent.cut_Opts_Queue (x : GEvent) : ((GEvent.cs x).drop 14).take 1 = [.str x.Opts.Queue] := rfl
theorem GEvent.cat_Opts_Queue (x : GEvent) : (((GEvent.cs x).map A.c).drop 14).take 1 = [A.c (.str x.Opts.Queue)] := rfl
theorem GEvent.pit_Opts_Queue (x : GEvent) (y : ByteArray) : spl (GEvent.cs x) 14 [.str y] = GEvent.cs { x with Opts := { x.Opts with Queue := y } } := rfl
theorem GEvent.put_Opts_Queue (x : GEvent) (y : ByteArray) : spl ((GEvent.cs x).map A.c) 14 [A.c (.str y)] = (GEvent.cs { x with Opts := { x.Opts with Queue := y } }).map A.c := rfl
theorem GEvent.cut_Opts_ToStart (x : GEvent) : ((GEvent.cs x).drop 15).take 1 = [.int .i64 x.Opts.ToStart] := rfl
theorem GEvent.cat_Opts_ToStart (x : GEvent) : (((GEvent.cs x).map A.c).drop 15).take 1 = [A.c (.int .i64 x.Opts.ToStart)] := rfl
theorem GEvent.pit_Opts_ToStart (x : GEvent) (y : Int) : spl (GEvent.cs x) 15 [.int .i64 y] = GEvent.cs { x with Opts := { x.Opts with ToStart := y } } := rfl
theorem GEvent.put_Opts_ToStart (x : GEvent) (y : Int) : spl ((GEvent.cs x).map A.c) 15 [A.c (.int .i64 y)] = (GEvent.cs { x with Opts := { x.Opts with ToStart := y } }).map A.c := rfl
theorem GEvent.cut_Opts_ToClose (x : GEvent) : ((GEvent.cs x).drop 16).take 1 = [.int .i64 x.Opts.ToClose] := rfl
theorem GEvent.cat_Opts_ToClose (x : GEvent) : (((GEvent.cs x).map A.c).drop 16).take 1 = [A.c (.int .i64 x.Opts.ToClose)] := rfl
theorem GEvent.pit_Opts_ToClose (x : GEvent) (y : Int) : spl (GEvent.cs x) 16 [.int .i64 y] = GEvent.cs { x with Opts := { x.Opts with ToClose := y } } := rfl
theorem GEvent.put_Opts_ToClose (x : GEvent) (y : Int) : spl ((GEvent.cs x).map A.c) 16 [A.c (.int .i64 y)] = (GEvent.cs { x with Opts := { x.Opts with ToClose := y } }).map A.c := rfl
theorem GEvent.cut_Opts_Total (x : GEvent) : ((GEvent.cs x).drop 17).take 1 = [.int .i64 x.Opts.Total] := rfl
theorem GEvent.cat_Opts_Total (x : GEvent) : (((GEvent.cs x).map A.c).drop 17).take 1 = [A.c (.int .i64 x.Opts.Total)] := rfl
theorem GEvent.pit_Opts_Total (x : GEvent) (y : Int) : spl (GEvent.cs x) 17 [.int .i64 y] = GEvent.cs { x with Opts := { x.Opts with Total := y } } := rfl
theorem GEvent.put_Opts_Total (x : GEvent) (y : Int) : spl ((GEvent.cs x).map A.c) 17 [A.c (.int .i64 y)] = (GEvent.cs { x with Opts := { x.Opts with Total := y } }).map A.c := rfl
theorem GEvent.cut_Opts_Beat (x : GEvent) : ((GEvent.cs x).drop 18).take 1 = [.int .i64 x.Opts.Beat] := rfl
theorem GEvent.cat_Opts_Beat (x : GEvent) : (((GEvent.cs x).map A.c).drop 18).take 1 = [A.c (.int .i64 x.Opts.Beat)] := rfl
theorem GEvent.pit_Opts_Beat (x : GEvent) (y : Int) : spl (GEvent.cs x) 18 [.int .i64 y] = GEvent.cs { x with Opts := { x.Opts with Beat := y } } := rfl
theorem GEvent.put_Opts_Beat (x : GEvent) (y : Int) : spl ((GEvent.cs x).map A.c) 18 [A.c (.int .i64 y)] = (GEvent.cs { x with Opts := { x.Opts with Beat := y } }).map A.c := rfl
theorem GEvent.cut_Opts_First (x : GEvent) : ((GEvent.cs x).drop 19).take 1 = [.int .i64 x.Opts.First] := rfl
theorem GEvent.cat_Opts_First (x : GEvent) : (((GEvent.cs x).map A.c).drop 19).take 1 = [A.c (.int .i64 x.Opts.First)] := rfl
theorem GEvent.pit_Opts_First (x : GEvent) (y : Int) : spl (GEvent.cs x) 19 [.int .i64 y] = GEvent.cs { x with Opts := { x.Opts with First := y } } := rfl
theorem GEvent.put_Opts_First (x : GEvent) (y : Int) : spl ((GEvent.cs x).map A.c) 19 [A.c (.int .i64 y)] = (GEvent.cs { x with Opts := { x.Opts with First := y } }).map A.c := rfl
theorem GEvent.cut_Opts_Coef (x : GEvent) : ((GEvent.cs x).drop 20).take 1 = [.int .i64 x.Opts.Coef] := rfl
theorem GEvent.cat_Opts_Coef (x : GEvent) : (((GEvent.cs x).map A.c).drop 20).take 1 = [A.c (.int .i64 x.Opts.Coef)] := rfl
theorem GEvent.pit_Opts_Coef (x : GEvent) (y : Int) : spl (GEvent.cs x) 20 [.int .i64 y] = GEvent.cs { x with Opts := { x.Opts with Coef := y } } := rfl
theorem GEvent.put_Opts_Coef (x : GEvent) (y : Int) : spl ((GEvent.cs x).map A.c) 20 [A.c (.int .i64 y)] = (GEvent.cs { x with Opts := { x.Opts with Coef := y } }).map A.c := rfl
theorem GEvent.cut_Opts_Most (x : GEvent) : ((GEvent.cs x).drop 21).take 1 = [.int .i64 x.Opts.Most] := rfl
theorem GEvent.cat_Opts_Most (x : GEvent) : (((GEvent.cs x).map A.c).drop 21).take 1 = [A.c (.int .i64 x.Opts.Most)] := rfl
theorem GEvent.pit_Opts_Most (x : GEvent) (y : Int) : spl (GEvent.cs x) 21 [.int .i64 y] = GEvent.cs { x with Opts := { x.Opts with Most := y } } := rfl
theorem GEvent.put_Opts_Most (x : GEvent) (y : Int) : spl ((GEvent.cs x).map A.c) 21 [A.c (.int .i64 y)] = (GEvent.cs { x with Opts := { x.Opts with Most := y } }).map A.c := rfl
theorem GEvent.cut_Opts_Attempts (x : GEvent) : ((GEvent.cs x).drop 22).take 1 = [.int .i64 x.Opts.Attempts] := rfl
theorem GEvent.cat_Opts_Attempts (x : GEvent) : (((GEvent.cs x).map A.c).drop 22).take 1 = [A.c (.int .i64 x.Opts.Attempts)] := rfl
theorem GEvent.pit_Opts_Attempts (x : GEvent) (y : Int) : spl (GEvent.cs x) 22 [.int .i64 y] = GEvent.cs { x with Opts := { x.Opts with Attempts := y } } := rfl
theorem GEvent.put_Opts_Attempts (x : GEvent) (y : Int) : spl ((GEvent.cs x).map A.c) 22 [A.c (.int .i64 y)] = (GEvent.cs { x with Opts := { x.Opts with Attempts := y } }).map A.c := rfl
theorem GEvent.cut_Opts_Fatal (x : GEvent) : ((GEvent.cs x).drop 23).take 1 = [.sl (x.Opts.Fatal.map strC)] := rfl
theorem GEvent.cat_Opts_Fatal (x : GEvent) : (((GEvent.cs x).map A.c).drop 23).take 1 = [A.c (.sl (x.Opts.Fatal.map strC))] := rfl
theorem GEvent.pit_Opts_Fatal (x : GEvent) (y : List ByteArray) : spl (GEvent.cs x) 23 [.sl (y.map strC)] = GEvent.cs { x with Opts := { x.Opts with Fatal := y } } := rfl
theorem GEvent.put_Opts_Fatal (x : GEvent) (y : List ByteArray) : spl ((GEvent.cs x).map A.c) 23 [A.c (.sl (y.map strC))] = (GEvent.cs { x with Opts := { x.Opts with Fatal := y } }).map A.c := rfl

structure GTask where
  ID : Int
  Kind : Int
  Event : Int
  Seq : Int
  Due : Int
  Attempt : Int
  Workflow : ByteArray
  Run : ByteArray
  Queue : ByteArray
  deriving Inhabited
def GTask.cs (x : GTask) : List C := [.int .i64 x.ID, .int .i64 x.Kind, .int .i64 x.Event, .int .i64 x.Seq, .int .i64 x.Due, .int .i64 x.Attempt, .str x.Workflow, .str x.Run, .str x.Queue]
theorem GTask.cs_length (x : GTask) : (GTask.cs x).length = 9 := rfl
theorem GTask.cut_all (x : GTask) : ((GTask.cs x).drop 0).take 9 = GTask.cs x := rfl
theorem GTask.cut_all' (x : GTask) : (((GTask.cs x).map A.c).drop 0).take 9 = (GTask.cs x).map A.c := rfl
theorem GTask.cut_tk (x : GTask) : ((GTask.cs x).map A.c).take 9 = (GTask.cs x).map A.c := rfl
theorem GTask.cut_tk' (x : GTask) : (GTask.cs x).take 9 = GTask.cs x := rfl
theorem GTask.put_all (x y : GTask) : spl ((GTask.cs x).map A.c) 0 ((GTask.cs y).map A.c) = (GTask.cs y).map A.c := rfl
theorem GTask.cut_ID (x : GTask) : ((GTask.cs x).drop 0).take 1 = [.int .i64 x.ID] := rfl
theorem GTask.cat_ID (x : GTask) : (((GTask.cs x).map A.c).drop 0).take 1 = [A.c (.int .i64 x.ID)] := rfl
theorem GTask.cit_ID (x : GTask) : ((GTask.cs x).map A.c).take 1 = [A.c (.int .i64 x.ID)] := rfl
theorem GTask.cot_ID (x : GTask) : (GTask.cs x).take 1 = [.int .i64 x.ID] := rfl
theorem GTask.pit_ID (x : GTask) (y : Int) : spl (GTask.cs x) 0 [.int .i64 y] = GTask.cs { x with ID := y } := rfl
theorem GTask.put_ID (x : GTask) (y : Int) : spl ((GTask.cs x).map A.c) 0 [A.c (.int .i64 y)] = (GTask.cs { x with ID := y }).map A.c := rfl
theorem GTask.cut_Kind (x : GTask) : ((GTask.cs x).drop 1).take 1 = [.int .i64 x.Kind] := rfl
theorem GTask.cat_Kind (x : GTask) : (((GTask.cs x).map A.c).drop 1).take 1 = [A.c (.int .i64 x.Kind)] := rfl
theorem GTask.pit_Kind (x : GTask) (y : Int) : spl (GTask.cs x) 1 [.int .i64 y] = GTask.cs { x with Kind := y } := rfl
theorem GTask.put_Kind (x : GTask) (y : Int) : spl ((GTask.cs x).map A.c) 1 [A.c (.int .i64 y)] = (GTask.cs { x with Kind := y }).map A.c := rfl
theorem GTask.cut_Event (x : GTask) : ((GTask.cs x).drop 2).take 1 = [.int .i64 x.Event] := rfl
theorem GTask.cat_Event (x : GTask) : (((GTask.cs x).map A.c).drop 2).take 1 = [A.c (.int .i64 x.Event)] := rfl
theorem GTask.pit_Event (x : GTask) (y : Int) : spl (GTask.cs x) 2 [.int .i64 y] = GTask.cs { x with Event := y } := rfl
theorem GTask.put_Event (x : GTask) (y : Int) : spl ((GTask.cs x).map A.c) 2 [A.c (.int .i64 y)] = (GTask.cs { x with Event := y }).map A.c := rfl
theorem GTask.cut_Seq (x : GTask) : ((GTask.cs x).drop 3).take 1 = [.int .i64 x.Seq] := rfl
theorem GTask.cat_Seq (x : GTask) : (((GTask.cs x).map A.c).drop 3).take 1 = [A.c (.int .i64 x.Seq)] := rfl
theorem GTask.pit_Seq (x : GTask) (y : Int) : spl (GTask.cs x) 3 [.int .i64 y] = GTask.cs { x with Seq := y } := rfl
theorem GTask.put_Seq (x : GTask) (y : Int) : spl ((GTask.cs x).map A.c) 3 [A.c (.int .i64 y)] = (GTask.cs { x with Seq := y }).map A.c := rfl
theorem GTask.cut_Due (x : GTask) : ((GTask.cs x).drop 4).take 1 = [.int .i64 x.Due] := rfl
theorem GTask.cat_Due (x : GTask) : (((GTask.cs x).map A.c).drop 4).take 1 = [A.c (.int .i64 x.Due)] := rfl
theorem GTask.pit_Due (x : GTask) (y : Int) : spl (GTask.cs x) 4 [.int .i64 y] = GTask.cs { x with Due := y } := rfl
theorem GTask.put_Due (x : GTask) (y : Int) : spl ((GTask.cs x).map A.c) 4 [A.c (.int .i64 y)] = (GTask.cs { x with Due := y }).map A.c := rfl
theorem GTask.cut_Attempt (x : GTask) : ((GTask.cs x).drop 5).take 1 = [.int .i64 x.Attempt] := rfl
theorem GTask.cat_Attempt (x : GTask) : (((GTask.cs x).map A.c).drop 5).take 1 = [A.c (.int .i64 x.Attempt)] := rfl
theorem GTask.pit_Attempt (x : GTask) (y : Int) : spl (GTask.cs x) 5 [.int .i64 y] = GTask.cs { x with Attempt := y } := rfl
theorem GTask.put_Attempt (x : GTask) (y : Int) : spl ((GTask.cs x).map A.c) 5 [A.c (.int .i64 y)] = (GTask.cs { x with Attempt := y }).map A.c := rfl
theorem GTask.cut_Workflow (x : GTask) : ((GTask.cs x).drop 6).take 1 = [.str x.Workflow] := rfl
theorem GTask.cat_Workflow (x : GTask) : (((GTask.cs x).map A.c).drop 6).take 1 = [A.c (.str x.Workflow)] := rfl
theorem GTask.pit_Workflow (x : GTask) (y : ByteArray) : spl (GTask.cs x) 6 [.str y] = GTask.cs { x with Workflow := y } := rfl
theorem GTask.put_Workflow (x : GTask) (y : ByteArray) : spl ((GTask.cs x).map A.c) 6 [A.c (.str y)] = (GTask.cs { x with Workflow := y }).map A.c := rfl
theorem GTask.cut_Run (x : GTask) : ((GTask.cs x).drop 7).take 1 = [.str x.Run] := rfl
theorem GTask.cat_Run (x : GTask) : (((GTask.cs x).map A.c).drop 7).take 1 = [A.c (.str x.Run)] := rfl
theorem GTask.pit_Run (x : GTask) (y : ByteArray) : spl (GTask.cs x) 7 [.str y] = GTask.cs { x with Run := y } := rfl
theorem GTask.put_Run (x : GTask) (y : ByteArray) : spl ((GTask.cs x).map A.c) 7 [A.c (.str y)] = (GTask.cs { x with Run := y }).map A.c := rfl
theorem GTask.cut_Queue (x : GTask) : ((GTask.cs x).drop 8).take 1 = [.str x.Queue] := rfl
theorem GTask.cat_Queue (x : GTask) : (((GTask.cs x).map A.c).drop 8).take 1 = [A.c (.str x.Queue)] := rfl
theorem GTask.pit_Queue (x : GTask) (y : ByteArray) : spl (GTask.cs x) 8 [.str y] = GTask.cs { x with Queue := y } := rfl
theorem GTask.put_Queue (x : GTask) (y : ByteArray) : spl ((GTask.cs x).map A.c) 8 [A.c (.str y)] = (GTask.cs { x with Queue := y }).map A.c := rfl

structure GRun where
  Workflow : ByteArray
  ID : ByteArray
  Parent : ByteArray
  ParentSeq : Int
  History : List GEvent
  Pending : GPending
  Buffer : List GEvent
  Admits : List GAdmit
  Tasks : List GTask
  NextTask : Int
  Version : Int
  deriving Inhabited
def GRun.cs (x : GRun) : List C := [.str x.Workflow, .str x.ID, .str x.Parent, .int .i64 x.ParentSeq, .sl (x.History.map GEvent.cs)] ++ (x.Pending.cs ++ [.sl (x.Buffer.map GEvent.cs), .sl (x.Admits.map GAdmit.cs), .sl (x.Tasks.map GTask.cs), .int .i64 x.NextTask, .int .i64 x.Version])
theorem GRun.cs_length (x : GRun) : (GRun.cs x).length = 34 := rfl
theorem GRun.cut_all (x : GRun) : ((GRun.cs x).drop 0).take 34 = GRun.cs x := rfl
theorem GRun.cut_all' (x : GRun) : (((GRun.cs x).map A.c).drop 0).take 34 = (GRun.cs x).map A.c := rfl
theorem GRun.cut_tk (x : GRun) : ((GRun.cs x).map A.c).take 34 = (GRun.cs x).map A.c := rfl
theorem GRun.cut_tk' (x : GRun) : (GRun.cs x).take 34 = GRun.cs x := rfl
theorem GRun.put_all (x y : GRun) : spl ((GRun.cs x).map A.c) 0 ((GRun.cs y).map A.c) = (GRun.cs y).map A.c := rfl
theorem GRun.cut_Workflow (x : GRun) : ((GRun.cs x).drop 0).take 1 = [.str x.Workflow] := rfl
theorem GRun.cat_Workflow (x : GRun) : (((GRun.cs x).map A.c).drop 0).take 1 = [A.c (.str x.Workflow)] := rfl
theorem GRun.cit_Workflow (x : GRun) : ((GRun.cs x).map A.c).take 1 = [A.c (.str x.Workflow)] := rfl
theorem GRun.cot_Workflow (x : GRun) : (GRun.cs x).take 1 = [.str x.Workflow] := rfl
theorem GRun.pit_Workflow (x : GRun) (y : ByteArray) : spl (GRun.cs x) 0 [.str y] = GRun.cs { x with Workflow := y } := rfl
theorem GRun.put_Workflow (x : GRun) (y : ByteArray) : spl ((GRun.cs x).map A.c) 0 [A.c (.str y)] = (GRun.cs { x with Workflow := y }).map A.c := rfl
theorem GRun.cut_ID (x : GRun) : ((GRun.cs x).drop 1).take 1 = [.str x.ID] := rfl
theorem GRun.cat_ID (x : GRun) : (((GRun.cs x).map A.c).drop 1).take 1 = [A.c (.str x.ID)] := rfl
theorem GRun.pit_ID (x : GRun) (y : ByteArray) : spl (GRun.cs x) 1 [.str y] = GRun.cs { x with ID := y } := rfl
theorem GRun.put_ID (x : GRun) (y : ByteArray) : spl ((GRun.cs x).map A.c) 1 [A.c (.str y)] = (GRun.cs { x with ID := y }).map A.c := rfl
theorem GRun.cut_Parent (x : GRun) : ((GRun.cs x).drop 2).take 1 = [.str x.Parent] := rfl
theorem GRun.cat_Parent (x : GRun) : (((GRun.cs x).map A.c).drop 2).take 1 = [A.c (.str x.Parent)] := rfl
theorem GRun.pit_Parent (x : GRun) (y : ByteArray) : spl (GRun.cs x) 2 [.str y] = GRun.cs { x with Parent := y } := rfl
theorem GRun.put_Parent (x : GRun) (y : ByteArray) : spl ((GRun.cs x).map A.c) 2 [A.c (.str y)] = (GRun.cs { x with Parent := y }).map A.c := rfl
theorem GRun.cut_ParentSeq (x : GRun) : ((GRun.cs x).drop 3).take 1 = [.int .i64 x.ParentSeq] := rfl
theorem GRun.cat_ParentSeq (x : GRun) : (((GRun.cs x).map A.c).drop 3).take 1 = [A.c (.int .i64 x.ParentSeq)] := rfl
theorem GRun.pit_ParentSeq (x : GRun) (y : Int) : spl (GRun.cs x) 3 [.int .i64 y] = GRun.cs { x with ParentSeq := y } := rfl
theorem GRun.put_ParentSeq (x : GRun) (y : Int) : spl ((GRun.cs x).map A.c) 3 [A.c (.int .i64 y)] = (GRun.cs { x with ParentSeq := y }).map A.c := rfl
theorem GRun.cut_History (x : GRun) : ((GRun.cs x).drop 4).take 1 = [.sl (x.History.map GEvent.cs)] := rfl
theorem GRun.cat_History (x : GRun) : (((GRun.cs x).map A.c).drop 4).take 1 = [A.c (.sl (x.History.map GEvent.cs))] := rfl
theorem GRun.pit_History (x : GRun) (y : List GEvent) : spl (GRun.cs x) 4 [.sl (y.map GEvent.cs)] = GRun.cs { x with History := y } := rfl
theorem GRun.put_History (x : GRun) (y : List GEvent) : spl ((GRun.cs x).map A.c) 4 [A.c (.sl (y.map GEvent.cs))] = (GRun.cs { x with History := y }).map A.c := rfl
theorem GRun.cut_Pending (x : GRun) : ((GRun.cs x).drop 5).take 24 = GPending.cs x.Pending := rfl
theorem GRun.cat_Pending (x : GRun) : (((GRun.cs x).map A.c).drop 5).take 24 = (GPending.cs x.Pending).map A.c := rfl
theorem GRun.pit_Pending (x : GRun) (y : GPending) : spl (GRun.cs x) 5 (GPending.cs y) = GRun.cs { x with Pending := y } := rfl
theorem GRun.put_Pending (x : GRun) (y : GPending) : spl ((GRun.cs x).map A.c) 5 ((GPending.cs y).map A.c) = (GRun.cs { x with Pending := y }).map A.c := rfl
theorem GRun.cut_Pending_Next (x : GRun) : ((GRun.cs x).drop 5).take 1 = [.int .i64 x.Pending.Next] := rfl
theorem GRun.cat_Pending_Next (x : GRun) : (((GRun.cs x).map A.c).drop 5).take 1 = [A.c (.int .i64 x.Pending.Next)] := rfl
theorem GRun.pit_Pending_Next (x : GRun) (y : Int) : spl (GRun.cs x) 5 [.int .i64 y] = GRun.cs { x with Pending := { x.Pending with Next := y } } := rfl
theorem GRun.put_Pending_Next (x : GRun) (y : Int) : spl ((GRun.cs x).map A.c) 5 [A.c (.int .i64 y)] = (GRun.cs { x with Pending := { x.Pending with Next := y } }).map A.c := rfl
theorem GRun.cut_Pending_Status (x : GRun) : ((GRun.cs x).drop 6).take 1 = [.int .i64 x.Pending.Status] := rfl
theorem GRun.cat_Pending_Status (x : GRun) : (((GRun.cs x).map A.c).drop 6).take 1 = [A.c (.int .i64 x.Pending.Status)] := rfl
theorem GRun.pit_Pending_Status (x : GRun) (y : Int) : spl (GRun.cs x) 6 [.int .i64 y] = GRun.cs { x with Pending := { x.Pending with Status := y } } := rfl
theorem GRun.put_Pending_Status (x : GRun) (y : Int) : spl ((GRun.cs x).map A.c) 6 [A.c (.int .i64 y)] = (GRun.cs { x with Pending := { x.Pending with Status := y } }).map A.c := rfl
theorem GRun.cut_Pending_Task (x : GRun) : ((GRun.cs x).drop 7).take 1 = [.int .i64 x.Pending.Task] := rfl
theorem GRun.cat_Pending_Task (x : GRun) : (((GRun.cs x).map A.c).drop 7).take 1 = [A.c (.int .i64 x.Pending.Task)] := rfl
theorem GRun.pit_Pending_Task (x : GRun) (y : Int) : spl (GRun.cs x) 7 [.int .i64 y] = GRun.cs { x with Pending := { x.Pending with Task := y } } := rfl
theorem GRun.put_Pending_Task (x : GRun) (y : Int) : spl ((GRun.cs x).map A.c) 7 [A.c (.int .i64 y)] = (GRun.cs { x with Pending := { x.Pending with Task := y } }).map A.c := rfl
theorem GRun.cut_Pending_TaskID (x : GRun) : ((GRun.cs x).drop 8).take 1 = [.int .i64 x.Pending.TaskID] := rfl
theorem GRun.cat_Pending_TaskID (x : GRun) : (((GRun.cs x).map A.c).drop 8).take 1 = [A.c (.int .i64 x.Pending.TaskID)] := rfl
theorem GRun.pit_Pending_TaskID (x : GRun) (y : Int) : spl (GRun.cs x) 8 [.int .i64 y] = GRun.cs { x with Pending := { x.Pending with TaskID := y } } := rfl
theorem GRun.put_Pending_TaskID (x : GRun) (y : Int) : spl ((GRun.cs x).map A.c) 8 [A.c (.int .i64 y)] = (GRun.cs { x with Pending := { x.Pending with TaskID := y } }).map A.c := rfl
theorem GRun.cut_Pending_Attempt (x : GRun) : ((GRun.cs x).drop 9).take 1 = [.int .i64 x.Pending.Attempt] := rfl
theorem GRun.cat_Pending_Attempt (x : GRun) : (((GRun.cs x).map A.c).drop 9).take 1 = [A.c (.int .i64 x.Pending.Attempt)] := rfl
theorem GRun.pit_Pending_Attempt (x : GRun) (y : Int) : spl (GRun.cs x) 9 [.int .i64 y] = GRun.cs { x with Pending := { x.Pending with Attempt := y } } := rfl
theorem GRun.put_Pending_Attempt (x : GRun) (y : Int) : spl ((GRun.cs x).map A.c) 9 [A.c (.int .i64 y)] = (GRun.cs { x with Pending := { x.Pending with Attempt := y } }).map A.c := rfl
theorem GRun.cut_Pending_Seq (x : GRun) : ((GRun.cs x).drop 10).take 1 = [.int .i64 x.Pending.Seq] := rfl
theorem GRun.cat_Pending_Seq (x : GRun) : (((GRun.cs x).map A.c).drop 10).take 1 = [A.c (.int .i64 x.Pending.Seq)] := rfl
theorem GRun.pit_Pending_Seq (x : GRun) (y : Int) : spl (GRun.cs x) 10 [.int .i64 y] = GRun.cs { x with Pending := { x.Pending with Seq := y } } := rfl
theorem GRun.put_Pending_Seq (x : GRun) (y : Int) : spl ((GRun.cs x).map A.c) 10 [A.c (.int .i64 y)] = (GRun.cs { x with Pending := { x.Pending with Seq := y } }).map A.c := rfl
theorem GRun.cut_Pending_Name (x : GRun) : ((GRun.cs x).drop 11).take 1 = [.str x.Pending.Name] := rfl
theorem GRun.cat_Pending_Name (x : GRun) : (((GRun.cs x).map A.c).drop 11).take 1 = [A.c (.str x.Pending.Name)] := rfl
theorem GRun.pit_Pending_Name (x : GRun) (y : ByteArray) : spl (GRun.cs x) 11 [.str y] = GRun.cs { x with Pending := { x.Pending with Name := y } } := rfl
theorem GRun.put_Pending_Name (x : GRun) (y : ByteArray) : spl ((GRun.cs x).map A.c) 11 [A.c (.str y)] = (GRun.cs { x with Pending := { x.Pending with Name := y } }).map A.c := rfl
theorem GRun.cut_Pending_Input (x : GRun) : ((GRun.cs x).drop 12).take 5 = GVal.cs x.Pending.Input := rfl
theorem GRun.cat_Pending_Input (x : GRun) : (((GRun.cs x).map A.c).drop 12).take 5 = (GVal.cs x.Pending.Input).map A.c := rfl
theorem GRun.pit_Pending_Input (x : GRun) (y : GVal) : spl (GRun.cs x) 12 (GVal.cs y) = GRun.cs { x with Pending := { x.Pending with Input := y } } := rfl
theorem GRun.put_Pending_Input (x : GRun) (y : GVal) : spl ((GRun.cs x).map A.c) 12 ((GVal.cs y).map A.c) = (GRun.cs { x with Pending := { x.Pending with Input := y } }).map A.c := rfl
theorem GRun.cut_Pending_Input_Kind (x : GRun) : ((GRun.cs x).drop 12).take 1 = [.int .i64 x.Pending.Input.Kind] := rfl
theorem GRun.cat_Pending_Input_Kind (x : GRun) : (((GRun.cs x).map A.c).drop 12).take 1 = [A.c (.int .i64 x.Pending.Input.Kind)] := rfl
theorem GRun.pit_Pending_Input_Kind (x : GRun) (y : Int) : spl (GRun.cs x) 12 [.int .i64 y] = GRun.cs { x with Pending := { x.Pending with Input := (x.Pending.Input.setKind y) } } := rfl
theorem GRun.put_Pending_Input_Kind (x : GRun) (y : Int) : spl ((GRun.cs x).map A.c) 12 [A.c (.int .i64 y)] = (GRun.cs { x with Pending := { x.Pending with Input := (x.Pending.Input.setKind y) } }).map A.c := rfl
theorem GRun.cut_Pending_Input_Num (x : GRun) : ((GRun.cs x).drop 13).take 1 = [.int .i64 x.Pending.Input.Num] := rfl
theorem GRun.cat_Pending_Input_Num (x : GRun) : (((GRun.cs x).map A.c).drop 13).take 1 = [A.c (.int .i64 x.Pending.Input.Num)] := rfl
theorem GRun.pit_Pending_Input_Num (x : GRun) (y : Int) : spl (GRun.cs x) 13 [.int .i64 y] = GRun.cs { x with Pending := { x.Pending with Input := (x.Pending.Input.setNum y) } } := rfl
theorem GRun.put_Pending_Input_Num (x : GRun) (y : Int) : spl ((GRun.cs x).map A.c) 13 [A.c (.int .i64 y)] = (GRun.cs { x with Pending := { x.Pending with Input := (x.Pending.Input.setNum y) } }).map A.c := rfl
theorem GRun.cut_Pending_Input_Text (x : GRun) : ((GRun.cs x).drop 14).take 1 = [.str x.Pending.Input.Text] := rfl
theorem GRun.cat_Pending_Input_Text (x : GRun) : (((GRun.cs x).map A.c).drop 14).take 1 = [A.c (.str x.Pending.Input.Text)] := rfl
theorem GRun.pit_Pending_Input_Text (x : GRun) (y : ByteArray) : spl (GRun.cs x) 14 [.str y] = GRun.cs { x with Pending := { x.Pending with Input := (x.Pending.Input.setText y) } } := rfl
theorem GRun.put_Pending_Input_Text (x : GRun) (y : ByteArray) : spl ((GRun.cs x).map A.c) 14 [A.c (.str y)] = (GRun.cs { x with Pending := { x.Pending with Input := (x.Pending.Input.setText y) } }).map A.c := rfl
theorem GRun.cut_Pending_Input_Items (x : GRun) : ((GRun.cs x).drop 15).take 1 = [.sl (x.Pending.Input.Items.map GVal.cs)] := congrArg (fun z => [C.sl z]) (GVal.css_map _)
theorem GRun.cat_Pending_Input_Items (x : GRun) : (((GRun.cs x).map A.c).drop 15).take 1 = [A.c (.sl (x.Pending.Input.Items.map GVal.cs))] := congrArg (fun z => [A.c (C.sl z)]) (GVal.css_map _)
theorem GRun.pit_Pending_Input_Items (x : GRun) (y : List GVal) : spl (GRun.cs x) 15 [.sl (y.map GVal.cs)] = GRun.cs { x with Pending := { x.Pending with Input := (x.Pending.Input.setItems y) } } := by rw [← GVal.css_map]; rfl
theorem GRun.put_Pending_Input_Items (x : GRun) (y : List GVal) : spl ((GRun.cs x).map A.c) 15 [A.c (.sl (y.map GVal.cs))] = (GRun.cs { x with Pending := { x.Pending with Input := (x.Pending.Input.setItems y) } }).map A.c := by rw [← GVal.css_map]; rfl
theorem GRun.cut_Pending_Input_Keys (x : GRun) : ((GRun.cs x).drop 16).take 1 = [.sl (x.Pending.Input.Keys.map strC)] := rfl
theorem GRun.cat_Pending_Input_Keys (x : GRun) : (((GRun.cs x).map A.c).drop 16).take 1 = [A.c (.sl (x.Pending.Input.Keys.map strC))] := rfl
theorem GRun.pit_Pending_Input_Keys (x : GRun) (y : List ByteArray) : spl (GRun.cs x) 16 [.sl (y.map strC)] = GRun.cs { x with Pending := { x.Pending with Input := (x.Pending.Input.setKeys y) } } := rfl
theorem GRun.put_Pending_Input_Keys (x : GRun) (y : List ByteArray) : spl ((GRun.cs x).map A.c) 16 [A.c (.sl (y.map strC))] = (GRun.cs { x with Pending := { x.Pending with Input := (x.Pending.Input.setKeys y) } }).map A.c := rfl
theorem GRun.cut_Pending_Attrs (x : GRun) : ((GRun.cs x).drop 17).take 5 = GVal.cs x.Pending.Attrs := rfl
theorem GRun.cat_Pending_Attrs (x : GRun) : (((GRun.cs x).map A.c).drop 17).take 5 = (GVal.cs x.Pending.Attrs).map A.c := rfl
theorem GRun.pit_Pending_Attrs (x : GRun) (y : GVal) : spl (GRun.cs x) 17 (GVal.cs y) = GRun.cs { x with Pending := { x.Pending with Attrs := y } } := rfl
theorem GRun.put_Pending_Attrs (x : GRun) (y : GVal) : spl ((GRun.cs x).map A.c) 17 ((GVal.cs y).map A.c) = (GRun.cs { x with Pending := { x.Pending with Attrs := y } }).map A.c := rfl
theorem GRun.cut_Pending_Attrs_Kind (x : GRun) : ((GRun.cs x).drop 17).take 1 = [.int .i64 x.Pending.Attrs.Kind] := rfl
theorem GRun.cat_Pending_Attrs_Kind (x : GRun) : (((GRun.cs x).map A.c).drop 17).take 1 = [A.c (.int .i64 x.Pending.Attrs.Kind)] := rfl
theorem GRun.pit_Pending_Attrs_Kind (x : GRun) (y : Int) : spl (GRun.cs x) 17 [.int .i64 y] = GRun.cs { x with Pending := { x.Pending with Attrs := (x.Pending.Attrs.setKind y) } } := rfl
theorem GRun.put_Pending_Attrs_Kind (x : GRun) (y : Int) : spl ((GRun.cs x).map A.c) 17 [A.c (.int .i64 y)] = (GRun.cs { x with Pending := { x.Pending with Attrs := (x.Pending.Attrs.setKind y) } }).map A.c := rfl
theorem GRun.cut_Pending_Attrs_Num (x : GRun) : ((GRun.cs x).drop 18).take 1 = [.int .i64 x.Pending.Attrs.Num] := rfl
theorem GRun.cat_Pending_Attrs_Num (x : GRun) : (((GRun.cs x).map A.c).drop 18).take 1 = [A.c (.int .i64 x.Pending.Attrs.Num)] := rfl
theorem GRun.pit_Pending_Attrs_Num (x : GRun) (y : Int) : spl (GRun.cs x) 18 [.int .i64 y] = GRun.cs { x with Pending := { x.Pending with Attrs := (x.Pending.Attrs.setNum y) } } := rfl
theorem GRun.put_Pending_Attrs_Num (x : GRun) (y : Int) : spl ((GRun.cs x).map A.c) 18 [A.c (.int .i64 y)] = (GRun.cs { x with Pending := { x.Pending with Attrs := (x.Pending.Attrs.setNum y) } }).map A.c := rfl
theorem GRun.cut_Pending_Attrs_Text (x : GRun) : ((GRun.cs x).drop 19).take 1 = [.str x.Pending.Attrs.Text] := rfl
theorem GRun.cat_Pending_Attrs_Text (x : GRun) : (((GRun.cs x).map A.c).drop 19).take 1 = [A.c (.str x.Pending.Attrs.Text)] := rfl
theorem GRun.pit_Pending_Attrs_Text (x : GRun) (y : ByteArray) : spl (GRun.cs x) 19 [.str y] = GRun.cs { x with Pending := { x.Pending with Attrs := (x.Pending.Attrs.setText y) } } := rfl
theorem GRun.put_Pending_Attrs_Text (x : GRun) (y : ByteArray) : spl ((GRun.cs x).map A.c) 19 [A.c (.str y)] = (GRun.cs { x with Pending := { x.Pending with Attrs := (x.Pending.Attrs.setText y) } }).map A.c := rfl
theorem GRun.cut_Pending_Attrs_Items (x : GRun) : ((GRun.cs x).drop 20).take 1 = [.sl (x.Pending.Attrs.Items.map GVal.cs)] := congrArg (fun z => [C.sl z]) (GVal.css_map _)
theorem GRun.cat_Pending_Attrs_Items (x : GRun) : (((GRun.cs x).map A.c).drop 20).take 1 = [A.c (.sl (x.Pending.Attrs.Items.map GVal.cs))] := congrArg (fun z => [A.c (C.sl z)]) (GVal.css_map _)
theorem GRun.pit_Pending_Attrs_Items (x : GRun) (y : List GVal) : spl (GRun.cs x) 20 [.sl (y.map GVal.cs)] = GRun.cs { x with Pending := { x.Pending with Attrs := (x.Pending.Attrs.setItems y) } } := by rw [← GVal.css_map]; rfl
theorem GRun.put_Pending_Attrs_Items (x : GRun) (y : List GVal) : spl ((GRun.cs x).map A.c) 20 [A.c (.sl (y.map GVal.cs))] = (GRun.cs { x with Pending := { x.Pending with Attrs := (x.Pending.Attrs.setItems y) } }).map A.c := by rw [← GVal.css_map]; rfl
theorem GRun.cut_Pending_Attrs_Keys (x : GRun) : ((GRun.cs x).drop 21).take 1 = [.sl (x.Pending.Attrs.Keys.map strC)] := rfl
theorem GRun.cat_Pending_Attrs_Keys (x : GRun) : (((GRun.cs x).map A.c).drop 21).take 1 = [A.c (.sl (x.Pending.Attrs.Keys.map strC))] := rfl
theorem GRun.pit_Pending_Attrs_Keys (x : GRun) (y : List ByteArray) : spl (GRun.cs x) 21 [.sl (y.map strC)] = GRun.cs { x with Pending := { x.Pending with Attrs := (x.Pending.Attrs.setKeys y) } } := rfl
theorem GRun.put_Pending_Attrs_Keys (x : GRun) (y : List ByteArray) : spl ((GRun.cs x).map A.c) 21 [A.c (.sl (y.map strC))] = (GRun.cs { x with Pending := { x.Pending with Attrs := (x.Pending.Attrs.setKeys y) } }).map A.c := rfl
theorem GRun.cut_Pending_Cancel (x : GRun) : ((GRun.cs x).drop 22).take 1 = [.bool x.Pending.Cancel] := rfl
theorem GRun.cat_Pending_Cancel (x : GRun) : (((GRun.cs x).map A.c).drop 22).take 1 = [A.c (.bool x.Pending.Cancel)] := rfl
theorem GRun.pit_Pending_Cancel (x : GRun) (y : Bool) : spl (GRun.cs x) 22 [.bool y] = GRun.cs { x with Pending := { x.Pending with Cancel := y } } := rfl
theorem GRun.put_Pending_Cancel (x : GRun) (y : Bool) : spl ((GRun.cs x).map A.c) 22 [A.c (.bool y)] = (GRun.cs { x with Pending := { x.Pending with Cancel := y } }).map A.c := rfl
theorem GRun.cut_Pending_Acts (x : GRun) : ((GRun.cs x).drop 23).take 1 = [.sl (x.Pending.Acts.map GAct.cs)] := rfl
theorem GRun.cat_Pending_Acts (x : GRun) : (((GRun.cs x).map A.c).drop 23).take 1 = [A.c (.sl (x.Pending.Acts.map GAct.cs))] := rfl
theorem GRun.pit_Pending_Acts (x : GRun) (y : List GAct) : spl (GRun.cs x) 23 [.sl (y.map GAct.cs)] = GRun.cs { x with Pending := { x.Pending with Acts := y } } := rfl
theorem GRun.put_Pending_Acts (x : GRun) (y : List GAct) : spl ((GRun.cs x).map A.c) 23 [A.c (.sl (y.map GAct.cs))] = (GRun.cs { x with Pending := { x.Pending with Acts := y } }).map A.c := rfl
theorem GRun.cut_Pending_Timers (x : GRun) : ((GRun.cs x).drop 24).take 1 = [.sl (x.Pending.Timers.map GTimer.cs)] := rfl
theorem GRun.cat_Pending_Timers (x : GRun) : (((GRun.cs x).map A.c).drop 24).take 1 = [A.c (.sl (x.Pending.Timers.map GTimer.cs))] := rfl
theorem GRun.pit_Pending_Timers (x : GRun) (y : List GTimer) : spl (GRun.cs x) 24 [.sl (y.map GTimer.cs)] = GRun.cs { x with Pending := { x.Pending with Timers := y } } := rfl
theorem GRun.put_Pending_Timers (x : GRun) (y : List GTimer) : spl ((GRun.cs x).map A.c) 24 [A.c (.sl (y.map GTimer.cs))] = (GRun.cs { x with Pending := { x.Pending with Timers := y } }).map A.c := rfl
theorem GRun.cut_Pending_Kids (x : GRun) : ((GRun.cs x).drop 25).take 1 = [.sl (x.Pending.Kids.map GKid.cs)] := rfl
theorem GRun.cat_Pending_Kids (x : GRun) : (((GRun.cs x).map A.c).drop 25).take 1 = [A.c (.sl (x.Pending.Kids.map GKid.cs))] := rfl
theorem GRun.pit_Pending_Kids (x : GRun) (y : List GKid) : spl (GRun.cs x) 25 [.sl (y.map GKid.cs)] = GRun.cs { x with Pending := { x.Pending with Kids := y } } := rfl
theorem GRun.put_Pending_Kids (x : GRun) (y : List GKid) : spl ((GRun.cs x).map A.c) 25 [A.c (.sl (y.map GKid.cs))] = (GRun.cs { x with Pending := { x.Pending with Kids := y } }).map A.c := rfl
theorem GRun.cut_Pending_Sends (x : GRun) : ((GRun.cs x).drop 26).take 1 = [.sl (x.Pending.Sends.map GSend.cs)] := rfl
theorem GRun.cat_Pending_Sends (x : GRun) : (((GRun.cs x).map A.c).drop 26).take 1 = [A.c (.sl (x.Pending.Sends.map GSend.cs))] := rfl
theorem GRun.pit_Pending_Sends (x : GRun) (y : List GSend) : spl (GRun.cs x) 26 [.sl (y.map GSend.cs)] = GRun.cs { x with Pending := { x.Pending with Sends := y } } := rfl
theorem GRun.put_Pending_Sends (x : GRun) (y : List GSend) : spl ((GRun.cs x).map A.c) 26 [A.c (.sl (y.map GSend.cs))] = (GRun.cs { x with Pending := { x.Pending with Sends := y } }).map A.c := rfl
theorem GRun.cut_Pending_Updates (x : GRun) : ((GRun.cs x).drop 27).take 1 = [.sl (x.Pending.Updates.map GUpd.cs)] := rfl
theorem GRun.cat_Pending_Updates (x : GRun) : (((GRun.cs x).map A.c).drop 27).take 1 = [A.c (.sl (x.Pending.Updates.map GUpd.cs))] := rfl
theorem GRun.pit_Pending_Updates (x : GRun) (y : List GUpd) : spl (GRun.cs x) 27 [.sl (y.map GUpd.cs)] = GRun.cs { x with Pending := { x.Pending with Updates := y } } := rfl
theorem GRun.put_Pending_Updates (x : GRun) (y : List GUpd) : spl ((GRun.cs x).map A.c) 27 [A.c (.sl (y.map GUpd.cs))] = (GRun.cs { x with Pending := { x.Pending with Updates := y } }).map A.c := rfl
theorem GRun.cut_Pending_Requests (x : GRun) : ((GRun.cs x).drop 28).take 1 = [.sl (x.Pending.Requests.map strC)] := rfl
theorem GRun.cat_Pending_Requests (x : GRun) : (((GRun.cs x).map A.c).drop 28).take 1 = [A.c (.sl (x.Pending.Requests.map strC))] := rfl
theorem GRun.pit_Pending_Requests (x : GRun) (y : List ByteArray) : spl (GRun.cs x) 28 [.sl (y.map strC)] = GRun.cs { x with Pending := { x.Pending with Requests := y } } := rfl
theorem GRun.put_Pending_Requests (x : GRun) (y : List ByteArray) : spl ((GRun.cs x).map A.c) 28 [A.c (.sl (y.map strC))] = (GRun.cs { x with Pending := { x.Pending with Requests := y } }).map A.c := rfl
theorem GRun.cut_Buffer (x : GRun) : ((GRun.cs x).drop 29).take 1 = [.sl (x.Buffer.map GEvent.cs)] := rfl
theorem GRun.cat_Buffer (x : GRun) : (((GRun.cs x).map A.c).drop 29).take 1 = [A.c (.sl (x.Buffer.map GEvent.cs))] := rfl
theorem GRun.pit_Buffer (x : GRun) (y : List GEvent) : spl (GRun.cs x) 29 [.sl (y.map GEvent.cs)] = GRun.cs { x with Buffer := y } := rfl
theorem GRun.put_Buffer (x : GRun) (y : List GEvent) : spl ((GRun.cs x).map A.c) 29 [A.c (.sl (y.map GEvent.cs))] = (GRun.cs { x with Buffer := y }).map A.c := rfl
theorem GRun.cut_Admits (x : GRun) : ((GRun.cs x).drop 30).take 1 = [.sl (x.Admits.map GAdmit.cs)] := rfl
theorem GRun.cat_Admits (x : GRun) : (((GRun.cs x).map A.c).drop 30).take 1 = [A.c (.sl (x.Admits.map GAdmit.cs))] := rfl
theorem GRun.pit_Admits (x : GRun) (y : List GAdmit) : spl (GRun.cs x) 30 [.sl (y.map GAdmit.cs)] = GRun.cs { x with Admits := y } := rfl
theorem GRun.put_Admits (x : GRun) (y : List GAdmit) : spl ((GRun.cs x).map A.c) 30 [A.c (.sl (y.map GAdmit.cs))] = (GRun.cs { x with Admits := y }).map A.c := rfl
theorem GRun.cut_Tasks (x : GRun) : ((GRun.cs x).drop 31).take 1 = [.sl (x.Tasks.map GTask.cs)] := rfl
theorem GRun.cat_Tasks (x : GRun) : (((GRun.cs x).map A.c).drop 31).take 1 = [A.c (.sl (x.Tasks.map GTask.cs))] := rfl
theorem GRun.pit_Tasks (x : GRun) (y : List GTask) : spl (GRun.cs x) 31 [.sl (y.map GTask.cs)] = GRun.cs { x with Tasks := y } := rfl
theorem GRun.put_Tasks (x : GRun) (y : List GTask) : spl ((GRun.cs x).map A.c) 31 [A.c (.sl (y.map GTask.cs))] = (GRun.cs { x with Tasks := y }).map A.c := rfl
theorem GRun.cut_NextTask (x : GRun) : ((GRun.cs x).drop 32).take 1 = [.int .i64 x.NextTask] := rfl
theorem GRun.cat_NextTask (x : GRun) : (((GRun.cs x).map A.c).drop 32).take 1 = [A.c (.int .i64 x.NextTask)] := rfl
theorem GRun.pit_NextTask (x : GRun) (y : Int) : spl (GRun.cs x) 32 [.int .i64 y] = GRun.cs { x with NextTask := y } := rfl
theorem GRun.put_NextTask (x : GRun) (y : Int) : spl ((GRun.cs x).map A.c) 32 [A.c (.int .i64 y)] = (GRun.cs { x with NextTask := y }).map A.c := rfl
theorem GRun.cut_Version (x : GRun) : ((GRun.cs x).drop 33).take 1 = [.int .i64 x.Version] := rfl
theorem GRun.cat_Version (x : GRun) : (((GRun.cs x).map A.c).drop 33).take 1 = [A.c (.int .i64 x.Version)] := rfl
theorem GRun.pit_Version (x : GRun) (y : Int) : spl (GRun.cs x) 33 [.int .i64 y] = GRun.cs { x with Version := y } := rfl
theorem GRun.put_Version (x : GRun) (y : Int) : spl ((GRun.cs x).map A.c) 33 [A.c (.int .i64 y)] = (GRun.cs { x with Version := y }).map A.c := rfl

structure GCommand where
  Kind : Int
  Seq : Int
  Name : ByteArray
  Key : ByteArray
  N : Int
  Data : GVal
  Opts : GPolicy
  deriving Inhabited
def GCommand.cs (x : GCommand) : List C := [.int .i64 x.Kind, .int .i64 x.Seq, .str x.Name, .str x.Key, .int .i64 x.N] ++ (x.Data.cs ++ x.Opts.cs)
theorem GCommand.cs_length (x : GCommand) : (GCommand.cs x).length = 20 := rfl
theorem GCommand.cut_all (x : GCommand) : ((GCommand.cs x).drop 0).take 20 = GCommand.cs x := rfl
theorem GCommand.cut_all' (x : GCommand) : (((GCommand.cs x).map A.c).drop 0).take 20 = (GCommand.cs x).map A.c := rfl
theorem GCommand.cut_tk (x : GCommand) : ((GCommand.cs x).map A.c).take 20 = (GCommand.cs x).map A.c := rfl
theorem GCommand.cut_tk' (x : GCommand) : (GCommand.cs x).take 20 = GCommand.cs x := rfl
theorem GCommand.put_all (x y : GCommand) : spl ((GCommand.cs x).map A.c) 0 ((GCommand.cs y).map A.c) = (GCommand.cs y).map A.c := rfl
theorem GCommand.cut_Kind (x : GCommand) : ((GCommand.cs x).drop 0).take 1 = [.int .i64 x.Kind] := rfl
theorem GCommand.cat_Kind (x : GCommand) : (((GCommand.cs x).map A.c).drop 0).take 1 = [A.c (.int .i64 x.Kind)] := rfl
theorem GCommand.cit_Kind (x : GCommand) : ((GCommand.cs x).map A.c).take 1 = [A.c (.int .i64 x.Kind)] := rfl
theorem GCommand.cot_Kind (x : GCommand) : (GCommand.cs x).take 1 = [.int .i64 x.Kind] := rfl
theorem GCommand.pit_Kind (x : GCommand) (y : Int) : spl (GCommand.cs x) 0 [.int .i64 y] = GCommand.cs { x with Kind := y } := rfl
theorem GCommand.put_Kind (x : GCommand) (y : Int) : spl ((GCommand.cs x).map A.c) 0 [A.c (.int .i64 y)] = (GCommand.cs { x with Kind := y }).map A.c := rfl
theorem GCommand.cut_Seq (x : GCommand) : ((GCommand.cs x).drop 1).take 1 = [.int .i64 x.Seq] := rfl
theorem GCommand.cat_Seq (x : GCommand) : (((GCommand.cs x).map A.c).drop 1).take 1 = [A.c (.int .i64 x.Seq)] := rfl
theorem GCommand.pit_Seq (x : GCommand) (y : Int) : spl (GCommand.cs x) 1 [.int .i64 y] = GCommand.cs { x with Seq := y } := rfl
theorem GCommand.put_Seq (x : GCommand) (y : Int) : spl ((GCommand.cs x).map A.c) 1 [A.c (.int .i64 y)] = (GCommand.cs { x with Seq := y }).map A.c := rfl
theorem GCommand.cut_Name (x : GCommand) : ((GCommand.cs x).drop 2).take 1 = [.str x.Name] := rfl
theorem GCommand.cat_Name (x : GCommand) : (((GCommand.cs x).map A.c).drop 2).take 1 = [A.c (.str x.Name)] := rfl
theorem GCommand.pit_Name (x : GCommand) (y : ByteArray) : spl (GCommand.cs x) 2 [.str y] = GCommand.cs { x with Name := y } := rfl
theorem GCommand.put_Name (x : GCommand) (y : ByteArray) : spl ((GCommand.cs x).map A.c) 2 [A.c (.str y)] = (GCommand.cs { x with Name := y }).map A.c := rfl
theorem GCommand.cut_Key (x : GCommand) : ((GCommand.cs x).drop 3).take 1 = [.str x.Key] := rfl
theorem GCommand.cat_Key (x : GCommand) : (((GCommand.cs x).map A.c).drop 3).take 1 = [A.c (.str x.Key)] := rfl
theorem GCommand.pit_Key (x : GCommand) (y : ByteArray) : spl (GCommand.cs x) 3 [.str y] = GCommand.cs { x with Key := y } := rfl
theorem GCommand.put_Key (x : GCommand) (y : ByteArray) : spl ((GCommand.cs x).map A.c) 3 [A.c (.str y)] = (GCommand.cs { x with Key := y }).map A.c := rfl
theorem GCommand.cut_N (x : GCommand) : ((GCommand.cs x).drop 4).take 1 = [.int .i64 x.N] := rfl
theorem GCommand.cat_N (x : GCommand) : (((GCommand.cs x).map A.c).drop 4).take 1 = [A.c (.int .i64 x.N)] := rfl
theorem GCommand.pit_N (x : GCommand) (y : Int) : spl (GCommand.cs x) 4 [.int .i64 y] = GCommand.cs { x with N := y } := rfl
theorem GCommand.put_N (x : GCommand) (y : Int) : spl ((GCommand.cs x).map A.c) 4 [A.c (.int .i64 y)] = (GCommand.cs { x with N := y }).map A.c := rfl
theorem GCommand.cut_Data (x : GCommand) : ((GCommand.cs x).drop 5).take 5 = GVal.cs x.Data := rfl
theorem GCommand.cat_Data (x : GCommand) : (((GCommand.cs x).map A.c).drop 5).take 5 = (GVal.cs x.Data).map A.c := rfl
theorem GCommand.pit_Data (x : GCommand) (y : GVal) : spl (GCommand.cs x) 5 (GVal.cs y) = GCommand.cs { x with Data := y } := rfl
theorem GCommand.put_Data (x : GCommand) (y : GVal) : spl ((GCommand.cs x).map A.c) 5 ((GVal.cs y).map A.c) = (GCommand.cs { x with Data := y }).map A.c := rfl
theorem GCommand.cut_Data_Kind (x : GCommand) : ((GCommand.cs x).drop 5).take 1 = [.int .i64 x.Data.Kind] := rfl
theorem GCommand.cat_Data_Kind (x : GCommand) : (((GCommand.cs x).map A.c).drop 5).take 1 = [A.c (.int .i64 x.Data.Kind)] := rfl
theorem GCommand.pit_Data_Kind (x : GCommand) (y : Int) : spl (GCommand.cs x) 5 [.int .i64 y] = GCommand.cs { x with Data := (x.Data.setKind y) } := rfl
theorem GCommand.put_Data_Kind (x : GCommand) (y : Int) : spl ((GCommand.cs x).map A.c) 5 [A.c (.int .i64 y)] = (GCommand.cs { x with Data := (x.Data.setKind y) }).map A.c := rfl
theorem GCommand.cut_Data_Num (x : GCommand) : ((GCommand.cs x).drop 6).take 1 = [.int .i64 x.Data.Num] := rfl
theorem GCommand.cat_Data_Num (x : GCommand) : (((GCommand.cs x).map A.c).drop 6).take 1 = [A.c (.int .i64 x.Data.Num)] := rfl
theorem GCommand.pit_Data_Num (x : GCommand) (y : Int) : spl (GCommand.cs x) 6 [.int .i64 y] = GCommand.cs { x with Data := (x.Data.setNum y) } := rfl
theorem GCommand.put_Data_Num (x : GCommand) (y : Int) : spl ((GCommand.cs x).map A.c) 6 [A.c (.int .i64 y)] = (GCommand.cs { x with Data := (x.Data.setNum y) }).map A.c := rfl
theorem GCommand.cut_Data_Text (x : GCommand) : ((GCommand.cs x).drop 7).take 1 = [.str x.Data.Text] := rfl
theorem GCommand.cat_Data_Text (x : GCommand) : (((GCommand.cs x).map A.c).drop 7).take 1 = [A.c (.str x.Data.Text)] := rfl
theorem GCommand.pit_Data_Text (x : GCommand) (y : ByteArray) : spl (GCommand.cs x) 7 [.str y] = GCommand.cs { x with Data := (x.Data.setText y) } := rfl
theorem GCommand.put_Data_Text (x : GCommand) (y : ByteArray) : spl ((GCommand.cs x).map A.c) 7 [A.c (.str y)] = (GCommand.cs { x with Data := (x.Data.setText y) }).map A.c := rfl
theorem GCommand.cut_Data_Items (x : GCommand) : ((GCommand.cs x).drop 8).take 1 = [.sl (x.Data.Items.map GVal.cs)] := congrArg (fun z => [C.sl z]) (GVal.css_map _)
theorem GCommand.cat_Data_Items (x : GCommand) : (((GCommand.cs x).map A.c).drop 8).take 1 = [A.c (.sl (x.Data.Items.map GVal.cs))] := congrArg (fun z => [A.c (C.sl z)]) (GVal.css_map _)
theorem GCommand.pit_Data_Items (x : GCommand) (y : List GVal) : spl (GCommand.cs x) 8 [.sl (y.map GVal.cs)] = GCommand.cs { x with Data := (x.Data.setItems y) } := by rw [← GVal.css_map]; rfl
theorem GCommand.put_Data_Items (x : GCommand) (y : List GVal) : spl ((GCommand.cs x).map A.c) 8 [A.c (.sl (y.map GVal.cs))] = (GCommand.cs { x with Data := (x.Data.setItems y) }).map A.c := by rw [← GVal.css_map]; rfl
theorem GCommand.cut_Data_Keys (x : GCommand) : ((GCommand.cs x).drop 9).take 1 = [.sl (x.Data.Keys.map strC)] := rfl
theorem GCommand.cat_Data_Keys (x : GCommand) : (((GCommand.cs x).map A.c).drop 9).take 1 = [A.c (.sl (x.Data.Keys.map strC))] := rfl
theorem GCommand.pit_Data_Keys (x : GCommand) (y : List ByteArray) : spl (GCommand.cs x) 9 [.sl (y.map strC)] = GCommand.cs { x with Data := (x.Data.setKeys y) } := rfl
theorem GCommand.put_Data_Keys (x : GCommand) (y : List ByteArray) : spl ((GCommand.cs x).map A.c) 9 [A.c (.sl (y.map strC))] = (GCommand.cs { x with Data := (x.Data.setKeys y) }).map A.c := rfl
theorem GCommand.cut_Opts (x : GCommand) : ((GCommand.cs x).drop 10).take 10 = GPolicy.cs x.Opts := rfl
theorem GCommand.cat_Opts (x : GCommand) : (((GCommand.cs x).map A.c).drop 10).take 10 = (GPolicy.cs x.Opts).map A.c := rfl
theorem GCommand.pit_Opts (x : GCommand) (y : GPolicy) : spl (GCommand.cs x) 10 (GPolicy.cs y) = GCommand.cs { x with Opts := y } := rfl
theorem GCommand.put_Opts (x : GCommand) (y : GPolicy) : spl ((GCommand.cs x).map A.c) 10 ((GPolicy.cs y).map A.c) = (GCommand.cs { x with Opts := y }).map A.c := rfl
theorem GCommand.cut_Opts_Queue (x : GCommand) : ((GCommand.cs x).drop 10).take 1 = [.str x.Opts.Queue] := rfl
theorem GCommand.cat_Opts_Queue (x : GCommand) : (((GCommand.cs x).map A.c).drop 10).take 1 = [A.c (.str x.Opts.Queue)] := rfl
theorem GCommand.pit_Opts_Queue (x : GCommand) (y : ByteArray) : spl (GCommand.cs x) 10 [.str y] = GCommand.cs { x with Opts := { x.Opts with Queue := y } } := rfl
theorem GCommand.put_Opts_Queue (x : GCommand) (y : ByteArray) : spl ((GCommand.cs x).map A.c) 10 [A.c (.str y)] = (GCommand.cs { x with Opts := { x.Opts with Queue := y } }).map A.c := rfl
theorem GCommand.cut_Opts_ToStart (x : GCommand) : ((GCommand.cs x).drop 11).take 1 = [.int .i64 x.Opts.ToStart] := rfl
theorem GCommand.cat_Opts_ToStart (x : GCommand) : (((GCommand.cs x).map A.c).drop 11).take 1 = [A.c (.int .i64 x.Opts.ToStart)] := rfl
theorem GCommand.pit_Opts_ToStart (x : GCommand) (y : Int) : spl (GCommand.cs x) 11 [.int .i64 y] = GCommand.cs { x with Opts := { x.Opts with ToStart := y } } := rfl
theorem GCommand.put_Opts_ToStart (x : GCommand) (y : Int) : spl ((GCommand.cs x).map A.c) 11 [A.c (.int .i64 y)] = (GCommand.cs { x with Opts := { x.Opts with ToStart := y } }).map A.c := rfl
theorem GCommand.cut_Opts_ToClose (x : GCommand) : ((GCommand.cs x).drop 12).take 1 = [.int .i64 x.Opts.ToClose] := rfl
theorem GCommand.cat_Opts_ToClose (x : GCommand) : (((GCommand.cs x).map A.c).drop 12).take 1 = [A.c (.int .i64 x.Opts.ToClose)] := rfl
theorem GCommand.pit_Opts_ToClose (x : GCommand) (y : Int) : spl (GCommand.cs x) 12 [.int .i64 y] = GCommand.cs { x with Opts := { x.Opts with ToClose := y } } := rfl
theorem GCommand.put_Opts_ToClose (x : GCommand) (y : Int) : spl ((GCommand.cs x).map A.c) 12 [A.c (.int .i64 y)] = (GCommand.cs { x with Opts := { x.Opts with ToClose := y } }).map A.c := rfl
theorem GCommand.cut_Opts_Total (x : GCommand) : ((GCommand.cs x).drop 13).take 1 = [.int .i64 x.Opts.Total] := rfl
theorem GCommand.cat_Opts_Total (x : GCommand) : (((GCommand.cs x).map A.c).drop 13).take 1 = [A.c (.int .i64 x.Opts.Total)] := rfl
theorem GCommand.pit_Opts_Total (x : GCommand) (y : Int) : spl (GCommand.cs x) 13 [.int .i64 y] = GCommand.cs { x with Opts := { x.Opts with Total := y } } := rfl
theorem GCommand.put_Opts_Total (x : GCommand) (y : Int) : spl ((GCommand.cs x).map A.c) 13 [A.c (.int .i64 y)] = (GCommand.cs { x with Opts := { x.Opts with Total := y } }).map A.c := rfl
theorem GCommand.cut_Opts_Beat (x : GCommand) : ((GCommand.cs x).drop 14).take 1 = [.int .i64 x.Opts.Beat] := rfl
theorem GCommand.cat_Opts_Beat (x : GCommand) : (((GCommand.cs x).map A.c).drop 14).take 1 = [A.c (.int .i64 x.Opts.Beat)] := rfl
theorem GCommand.pit_Opts_Beat (x : GCommand) (y : Int) : spl (GCommand.cs x) 14 [.int .i64 y] = GCommand.cs { x with Opts := { x.Opts with Beat := y } } := rfl
theorem GCommand.put_Opts_Beat (x : GCommand) (y : Int) : spl ((GCommand.cs x).map A.c) 14 [A.c (.int .i64 y)] = (GCommand.cs { x with Opts := { x.Opts with Beat := y } }).map A.c := rfl
theorem GCommand.cut_Opts_First (x : GCommand) : ((GCommand.cs x).drop 15).take 1 = [.int .i64 x.Opts.First] := rfl
theorem GCommand.cat_Opts_First (x : GCommand) : (((GCommand.cs x).map A.c).drop 15).take 1 = [A.c (.int .i64 x.Opts.First)] := rfl
theorem GCommand.pit_Opts_First (x : GCommand) (y : Int) : spl (GCommand.cs x) 15 [.int .i64 y] = GCommand.cs { x with Opts := { x.Opts with First := y } } := rfl
theorem GCommand.put_Opts_First (x : GCommand) (y : Int) : spl ((GCommand.cs x).map A.c) 15 [A.c (.int .i64 y)] = (GCommand.cs { x with Opts := { x.Opts with First := y } }).map A.c := rfl
theorem GCommand.cut_Opts_Coef (x : GCommand) : ((GCommand.cs x).drop 16).take 1 = [.int .i64 x.Opts.Coef] := rfl
theorem GCommand.cat_Opts_Coef (x : GCommand) : (((GCommand.cs x).map A.c).drop 16).take 1 = [A.c (.int .i64 x.Opts.Coef)] := rfl
theorem GCommand.pit_Opts_Coef (x : GCommand) (y : Int) : spl (GCommand.cs x) 16 [.int .i64 y] = GCommand.cs { x with Opts := { x.Opts with Coef := y } } := rfl
theorem GCommand.put_Opts_Coef (x : GCommand) (y : Int) : spl ((GCommand.cs x).map A.c) 16 [A.c (.int .i64 y)] = (GCommand.cs { x with Opts := { x.Opts with Coef := y } }).map A.c := rfl
theorem GCommand.cut_Opts_Most (x : GCommand) : ((GCommand.cs x).drop 17).take 1 = [.int .i64 x.Opts.Most] := rfl
theorem GCommand.cat_Opts_Most (x : GCommand) : (((GCommand.cs x).map A.c).drop 17).take 1 = [A.c (.int .i64 x.Opts.Most)] := rfl
theorem GCommand.pit_Opts_Most (x : GCommand) (y : Int) : spl (GCommand.cs x) 17 [.int .i64 y] = GCommand.cs { x with Opts := { x.Opts with Most := y } } := rfl
theorem GCommand.put_Opts_Most (x : GCommand) (y : Int) : spl ((GCommand.cs x).map A.c) 17 [A.c (.int .i64 y)] = (GCommand.cs { x with Opts := { x.Opts with Most := y } }).map A.c := rfl
theorem GCommand.cut_Opts_Attempts (x : GCommand) : ((GCommand.cs x).drop 18).take 1 = [.int .i64 x.Opts.Attempts] := rfl
theorem GCommand.cat_Opts_Attempts (x : GCommand) : (((GCommand.cs x).map A.c).drop 18).take 1 = [A.c (.int .i64 x.Opts.Attempts)] := rfl
theorem GCommand.pit_Opts_Attempts (x : GCommand) (y : Int) : spl (GCommand.cs x) 18 [.int .i64 y] = GCommand.cs { x with Opts := { x.Opts with Attempts := y } } := rfl
theorem GCommand.put_Opts_Attempts (x : GCommand) (y : Int) : spl ((GCommand.cs x).map A.c) 18 [A.c (.int .i64 y)] = (GCommand.cs { x with Opts := { x.Opts with Attempts := y } }).map A.c := rfl
theorem GCommand.cut_Opts_Fatal (x : GCommand) : ((GCommand.cs x).drop 19).take 1 = [.sl (x.Opts.Fatal.map strC)] := rfl
theorem GCommand.cat_Opts_Fatal (x : GCommand) : (((GCommand.cs x).map A.c).drop 19).take 1 = [A.c (.sl (x.Opts.Fatal.map strC))] := rfl
theorem GCommand.pit_Opts_Fatal (x : GCommand) (y : List ByteArray) : spl (GCommand.cs x) 19 [.sl (y.map strC)] = GCommand.cs { x with Opts := { x.Opts with Fatal := y } } := rfl
theorem GCommand.put_Opts_Fatal (x : GCommand) (y : List ByteArray) : spl ((GCommand.cs x).map A.c) 19 [A.c (.sl (y.map strC))] = (GCommand.cs { x with Opts := { x.Opts with Fatal := y } }).map A.c := rfl

structure GOOutcome where
  Kind : Int
  Ticks : Int
  Failure : ByteArray
  Data : GVal
  deriving Inhabited
def GOOutcome.cs (x : GOOutcome) : List C := [.int .i64 x.Kind, .int .i64 x.Ticks, .str x.Failure] ++ x.Data.cs
theorem GOOutcome.cs_length (x : GOOutcome) : (GOOutcome.cs x).length = 8 := rfl
theorem GOOutcome.cut_all (x : GOOutcome) : ((GOOutcome.cs x).drop 0).take 8 = GOOutcome.cs x := rfl
theorem GOOutcome.cut_all' (x : GOOutcome) : (((GOOutcome.cs x).map A.c).drop 0).take 8 = (GOOutcome.cs x).map A.c := rfl
theorem GOOutcome.cut_tk (x : GOOutcome) : ((GOOutcome.cs x).map A.c).take 8 = (GOOutcome.cs x).map A.c := rfl
theorem GOOutcome.cut_tk' (x : GOOutcome) : (GOOutcome.cs x).take 8 = GOOutcome.cs x := rfl
theorem GOOutcome.put_all (x y : GOOutcome) : spl ((GOOutcome.cs x).map A.c) 0 ((GOOutcome.cs y).map A.c) = (GOOutcome.cs y).map A.c := rfl
theorem GOOutcome.cut_Kind (x : GOOutcome) : ((GOOutcome.cs x).drop 0).take 1 = [.int .i64 x.Kind] := rfl
theorem GOOutcome.cat_Kind (x : GOOutcome) : (((GOOutcome.cs x).map A.c).drop 0).take 1 = [A.c (.int .i64 x.Kind)] := rfl
theorem GOOutcome.cit_Kind (x : GOOutcome) : ((GOOutcome.cs x).map A.c).take 1 = [A.c (.int .i64 x.Kind)] := rfl
theorem GOOutcome.cot_Kind (x : GOOutcome) : (GOOutcome.cs x).take 1 = [.int .i64 x.Kind] := rfl
theorem GOOutcome.pit_Kind (x : GOOutcome) (y : Int) : spl (GOOutcome.cs x) 0 [.int .i64 y] = GOOutcome.cs { x with Kind := y } := rfl
theorem GOOutcome.put_Kind (x : GOOutcome) (y : Int) : spl ((GOOutcome.cs x).map A.c) 0 [A.c (.int .i64 y)] = (GOOutcome.cs { x with Kind := y }).map A.c := rfl
theorem GOOutcome.cut_Ticks (x : GOOutcome) : ((GOOutcome.cs x).drop 1).take 1 = [.int .i64 x.Ticks] := rfl
theorem GOOutcome.cat_Ticks (x : GOOutcome) : (((GOOutcome.cs x).map A.c).drop 1).take 1 = [A.c (.int .i64 x.Ticks)] := rfl
theorem GOOutcome.pit_Ticks (x : GOOutcome) (y : Int) : spl (GOOutcome.cs x) 1 [.int .i64 y] = GOOutcome.cs { x with Ticks := y } := rfl
theorem GOOutcome.put_Ticks (x : GOOutcome) (y : Int) : spl ((GOOutcome.cs x).map A.c) 1 [A.c (.int .i64 y)] = (GOOutcome.cs { x with Ticks := y }).map A.c := rfl
theorem GOOutcome.cut_Failure (x : GOOutcome) : ((GOOutcome.cs x).drop 2).take 1 = [.str x.Failure] := rfl
theorem GOOutcome.cat_Failure (x : GOOutcome) : (((GOOutcome.cs x).map A.c).drop 2).take 1 = [A.c (.str x.Failure)] := rfl
theorem GOOutcome.pit_Failure (x : GOOutcome) (y : ByteArray) : spl (GOOutcome.cs x) 2 [.str y] = GOOutcome.cs { x with Failure := y } := rfl
theorem GOOutcome.put_Failure (x : GOOutcome) (y : ByteArray) : spl ((GOOutcome.cs x).map A.c) 2 [A.c (.str y)] = (GOOutcome.cs { x with Failure := y }).map A.c := rfl
theorem GOOutcome.cut_Data (x : GOOutcome) : ((GOOutcome.cs x).drop 3).take 5 = GVal.cs x.Data := rfl
theorem GOOutcome.cat_Data (x : GOOutcome) : (((GOOutcome.cs x).map A.c).drop 3).take 5 = (GVal.cs x.Data).map A.c := rfl
theorem GOOutcome.pit_Data (x : GOOutcome) (y : GVal) : spl (GOOutcome.cs x) 3 (GVal.cs y) = GOOutcome.cs { x with Data := y } := rfl
theorem GOOutcome.put_Data (x : GOOutcome) (y : GVal) : spl ((GOOutcome.cs x).map A.c) 3 ((GVal.cs y).map A.c) = (GOOutcome.cs { x with Data := y }).map A.c := rfl
theorem GOOutcome.cut_Data_Kind (x : GOOutcome) : ((GOOutcome.cs x).drop 3).take 1 = [.int .i64 x.Data.Kind] := rfl
theorem GOOutcome.cat_Data_Kind (x : GOOutcome) : (((GOOutcome.cs x).map A.c).drop 3).take 1 = [A.c (.int .i64 x.Data.Kind)] := rfl
theorem GOOutcome.pit_Data_Kind (x : GOOutcome) (y : Int) : spl (GOOutcome.cs x) 3 [.int .i64 y] = GOOutcome.cs { x with Data := (x.Data.setKind y) } := rfl
theorem GOOutcome.put_Data_Kind (x : GOOutcome) (y : Int) : spl ((GOOutcome.cs x).map A.c) 3 [A.c (.int .i64 y)] = (GOOutcome.cs { x with Data := (x.Data.setKind y) }).map A.c := rfl
theorem GOOutcome.cut_Data_Num (x : GOOutcome) : ((GOOutcome.cs x).drop 4).take 1 = [.int .i64 x.Data.Num] := rfl
theorem GOOutcome.cat_Data_Num (x : GOOutcome) : (((GOOutcome.cs x).map A.c).drop 4).take 1 = [A.c (.int .i64 x.Data.Num)] := rfl
theorem GOOutcome.pit_Data_Num (x : GOOutcome) (y : Int) : spl (GOOutcome.cs x) 4 [.int .i64 y] = GOOutcome.cs { x with Data := (x.Data.setNum y) } := rfl
theorem GOOutcome.put_Data_Num (x : GOOutcome) (y : Int) : spl ((GOOutcome.cs x).map A.c) 4 [A.c (.int .i64 y)] = (GOOutcome.cs { x with Data := (x.Data.setNum y) }).map A.c := rfl
theorem GOOutcome.cut_Data_Text (x : GOOutcome) : ((GOOutcome.cs x).drop 5).take 1 = [.str x.Data.Text] := rfl
theorem GOOutcome.cat_Data_Text (x : GOOutcome) : (((GOOutcome.cs x).map A.c).drop 5).take 1 = [A.c (.str x.Data.Text)] := rfl
theorem GOOutcome.pit_Data_Text (x : GOOutcome) (y : ByteArray) : spl (GOOutcome.cs x) 5 [.str y] = GOOutcome.cs { x with Data := (x.Data.setText y) } := rfl
theorem GOOutcome.put_Data_Text (x : GOOutcome) (y : ByteArray) : spl ((GOOutcome.cs x).map A.c) 5 [A.c (.str y)] = (GOOutcome.cs { x with Data := (x.Data.setText y) }).map A.c := rfl
theorem GOOutcome.cut_Data_Items (x : GOOutcome) : ((GOOutcome.cs x).drop 6).take 1 = [.sl (x.Data.Items.map GVal.cs)] := congrArg (fun z => [C.sl z]) (GVal.css_map _)
theorem GOOutcome.cat_Data_Items (x : GOOutcome) : (((GOOutcome.cs x).map A.c).drop 6).take 1 = [A.c (.sl (x.Data.Items.map GVal.cs))] := congrArg (fun z => [A.c (C.sl z)]) (GVal.css_map _)
theorem GOOutcome.pit_Data_Items (x : GOOutcome) (y : List GVal) : spl (GOOutcome.cs x) 6 [.sl (y.map GVal.cs)] = GOOutcome.cs { x with Data := (x.Data.setItems y) } := by rw [← GVal.css_map]; rfl
theorem GOOutcome.put_Data_Items (x : GOOutcome) (y : List GVal) : spl ((GOOutcome.cs x).map A.c) 6 [A.c (.sl (y.map GVal.cs))] = (GOOutcome.cs { x with Data := (x.Data.setItems y) }).map A.c := by rw [← GVal.css_map]; rfl
theorem GOOutcome.cut_Data_Keys (x : GOOutcome) : ((GOOutcome.cs x).drop 7).take 1 = [.sl (x.Data.Keys.map strC)] := rfl
theorem GOOutcome.cat_Data_Keys (x : GOOutcome) : (((GOOutcome.cs x).map A.c).drop 7).take 1 = [A.c (.sl (x.Data.Keys.map strC))] := rfl
theorem GOOutcome.pit_Data_Keys (x : GOOutcome) (y : List ByteArray) : spl (GOOutcome.cs x) 7 [.sl (y.map strC)] = GOOutcome.cs { x with Data := (x.Data.setKeys y) } := rfl
theorem GOOutcome.put_Data_Keys (x : GOOutcome) (y : List ByteArray) : spl ((GOOutcome.cs x).map A.c) 7 [A.c (.sl (y.map strC))] = (GOOutcome.cs { x with Data := (x.Data.setKeys y) }).map A.c := rfl

structure GRule where
  Name : ByteArray
  Fails : Int
  Failure : ByteArray
  Ticks : Int
  Echo : Bool
  Result : GVal
  deriving Inhabited
def GRule.cs (x : GRule) : List C := [.str x.Name, .int .i64 x.Fails, .str x.Failure, .int .i64 x.Ticks, .bool x.Echo] ++ x.Result.cs
theorem GRule.cs_length (x : GRule) : (GRule.cs x).length = 10 := rfl
theorem GRule.cut_all (x : GRule) : ((GRule.cs x).drop 0).take 10 = GRule.cs x := rfl
theorem GRule.cut_all' (x : GRule) : (((GRule.cs x).map A.c).drop 0).take 10 = (GRule.cs x).map A.c := rfl
theorem GRule.cut_tk (x : GRule) : ((GRule.cs x).map A.c).take 10 = (GRule.cs x).map A.c := rfl
theorem GRule.cut_tk' (x : GRule) : (GRule.cs x).take 10 = GRule.cs x := rfl
theorem GRule.put_all (x y : GRule) : spl ((GRule.cs x).map A.c) 0 ((GRule.cs y).map A.c) = (GRule.cs y).map A.c := rfl
theorem GRule.cut_Name (x : GRule) : ((GRule.cs x).drop 0).take 1 = [.str x.Name] := rfl
theorem GRule.cat_Name (x : GRule) : (((GRule.cs x).map A.c).drop 0).take 1 = [A.c (.str x.Name)] := rfl
theorem GRule.cit_Name (x : GRule) : ((GRule.cs x).map A.c).take 1 = [A.c (.str x.Name)] := rfl
theorem GRule.cot_Name (x : GRule) : (GRule.cs x).take 1 = [.str x.Name] := rfl
theorem GRule.pit_Name (x : GRule) (y : ByteArray) : spl (GRule.cs x) 0 [.str y] = GRule.cs { x with Name := y } := rfl
theorem GRule.put_Name (x : GRule) (y : ByteArray) : spl ((GRule.cs x).map A.c) 0 [A.c (.str y)] = (GRule.cs { x with Name := y }).map A.c := rfl
theorem GRule.cut_Fails (x : GRule) : ((GRule.cs x).drop 1).take 1 = [.int .i64 x.Fails] := rfl
theorem GRule.cat_Fails (x : GRule) : (((GRule.cs x).map A.c).drop 1).take 1 = [A.c (.int .i64 x.Fails)] := rfl
theorem GRule.pit_Fails (x : GRule) (y : Int) : spl (GRule.cs x) 1 [.int .i64 y] = GRule.cs { x with Fails := y } := rfl
theorem GRule.put_Fails (x : GRule) (y : Int) : spl ((GRule.cs x).map A.c) 1 [A.c (.int .i64 y)] = (GRule.cs { x with Fails := y }).map A.c := rfl
theorem GRule.cut_Failure (x : GRule) : ((GRule.cs x).drop 2).take 1 = [.str x.Failure] := rfl
theorem GRule.cat_Failure (x : GRule) : (((GRule.cs x).map A.c).drop 2).take 1 = [A.c (.str x.Failure)] := rfl
theorem GRule.pit_Failure (x : GRule) (y : ByteArray) : spl (GRule.cs x) 2 [.str y] = GRule.cs { x with Failure := y } := rfl
theorem GRule.put_Failure (x : GRule) (y : ByteArray) : spl ((GRule.cs x).map A.c) 2 [A.c (.str y)] = (GRule.cs { x with Failure := y }).map A.c := rfl
theorem GRule.cut_Ticks (x : GRule) : ((GRule.cs x).drop 3).take 1 = [.int .i64 x.Ticks] := rfl
theorem GRule.cat_Ticks (x : GRule) : (((GRule.cs x).map A.c).drop 3).take 1 = [A.c (.int .i64 x.Ticks)] := rfl
theorem GRule.pit_Ticks (x : GRule) (y : Int) : spl (GRule.cs x) 3 [.int .i64 y] = GRule.cs { x with Ticks := y } := rfl
theorem GRule.put_Ticks (x : GRule) (y : Int) : spl ((GRule.cs x).map A.c) 3 [A.c (.int .i64 y)] = (GRule.cs { x with Ticks := y }).map A.c := rfl
theorem GRule.cut_Echo (x : GRule) : ((GRule.cs x).drop 4).take 1 = [.bool x.Echo] := rfl
theorem GRule.cat_Echo (x : GRule) : (((GRule.cs x).map A.c).drop 4).take 1 = [A.c (.bool x.Echo)] := rfl
theorem GRule.pit_Echo (x : GRule) (y : Bool) : spl (GRule.cs x) 4 [.bool y] = GRule.cs { x with Echo := y } := rfl
theorem GRule.put_Echo (x : GRule) (y : Bool) : spl ((GRule.cs x).map A.c) 4 [A.c (.bool y)] = (GRule.cs { x with Echo := y }).map A.c := rfl
theorem GRule.cut_Result (x : GRule) : ((GRule.cs x).drop 5).take 5 = GVal.cs x.Result := rfl
theorem GRule.cat_Result (x : GRule) : (((GRule.cs x).map A.c).drop 5).take 5 = (GVal.cs x.Result).map A.c := rfl
theorem GRule.pit_Result (x : GRule) (y : GVal) : spl (GRule.cs x) 5 (GVal.cs y) = GRule.cs { x with Result := y } := rfl
theorem GRule.put_Result (x : GRule) (y : GVal) : spl ((GRule.cs x).map A.c) 5 ((GVal.cs y).map A.c) = (GRule.cs { x with Result := y }).map A.c := rfl
theorem GRule.cut_Result_Kind (x : GRule) : ((GRule.cs x).drop 5).take 1 = [.int .i64 x.Result.Kind] := rfl
theorem GRule.cat_Result_Kind (x : GRule) : (((GRule.cs x).map A.c).drop 5).take 1 = [A.c (.int .i64 x.Result.Kind)] := rfl
theorem GRule.pit_Result_Kind (x : GRule) (y : Int) : spl (GRule.cs x) 5 [.int .i64 y] = GRule.cs { x with Result := (x.Result.setKind y) } := rfl
theorem GRule.put_Result_Kind (x : GRule) (y : Int) : spl ((GRule.cs x).map A.c) 5 [A.c (.int .i64 y)] = (GRule.cs { x with Result := (x.Result.setKind y) }).map A.c := rfl
theorem GRule.cut_Result_Num (x : GRule) : ((GRule.cs x).drop 6).take 1 = [.int .i64 x.Result.Num] := rfl
theorem GRule.cat_Result_Num (x : GRule) : (((GRule.cs x).map A.c).drop 6).take 1 = [A.c (.int .i64 x.Result.Num)] := rfl
theorem GRule.pit_Result_Num (x : GRule) (y : Int) : spl (GRule.cs x) 6 [.int .i64 y] = GRule.cs { x with Result := (x.Result.setNum y) } := rfl
theorem GRule.put_Result_Num (x : GRule) (y : Int) : spl ((GRule.cs x).map A.c) 6 [A.c (.int .i64 y)] = (GRule.cs { x with Result := (x.Result.setNum y) }).map A.c := rfl
theorem GRule.cut_Result_Text (x : GRule) : ((GRule.cs x).drop 7).take 1 = [.str x.Result.Text] := rfl
theorem GRule.cat_Result_Text (x : GRule) : (((GRule.cs x).map A.c).drop 7).take 1 = [A.c (.str x.Result.Text)] := rfl
theorem GRule.pit_Result_Text (x : GRule) (y : ByteArray) : spl (GRule.cs x) 7 [.str y] = GRule.cs { x with Result := (x.Result.setText y) } := rfl
theorem GRule.put_Result_Text (x : GRule) (y : ByteArray) : spl ((GRule.cs x).map A.c) 7 [A.c (.str y)] = (GRule.cs { x with Result := (x.Result.setText y) }).map A.c := rfl
theorem GRule.cut_Result_Items (x : GRule) : ((GRule.cs x).drop 8).take 1 = [.sl (x.Result.Items.map GVal.cs)] := congrArg (fun z => [C.sl z]) (GVal.css_map _)
theorem GRule.cat_Result_Items (x : GRule) : (((GRule.cs x).map A.c).drop 8).take 1 = [A.c (.sl (x.Result.Items.map GVal.cs))] := congrArg (fun z => [A.c (C.sl z)]) (GVal.css_map _)
theorem GRule.pit_Result_Items (x : GRule) (y : List GVal) : spl (GRule.cs x) 8 [.sl (y.map GVal.cs)] = GRule.cs { x with Result := (x.Result.setItems y) } := by rw [← GVal.css_map]; rfl
theorem GRule.put_Result_Items (x : GRule) (y : List GVal) : spl ((GRule.cs x).map A.c) 8 [A.c (.sl (y.map GVal.cs))] = (GRule.cs { x with Result := (x.Result.setItems y) }).map A.c := by rw [← GVal.css_map]; rfl
theorem GRule.cut_Result_Keys (x : GRule) : ((GRule.cs x).drop 9).take 1 = [.sl (x.Result.Keys.map strC)] := rfl
theorem GRule.cat_Result_Keys (x : GRule) : (((GRule.cs x).map A.c).drop 9).take 1 = [A.c (.sl (x.Result.Keys.map strC))] := rfl
theorem GRule.pit_Result_Keys (x : GRule) (y : List ByteArray) : spl (GRule.cs x) 9 [.sl (y.map strC)] = GRule.cs { x with Result := (x.Result.setKeys y) } := rfl
theorem GRule.put_Result_Keys (x : GRule) (y : List ByteArray) : spl ((GRule.cs x).map A.c) 9 [A.c (.sl (y.map strC))] = (GRule.cs { x with Result := (x.Result.setKeys y) }).map A.c := rfl

structure GAOutcome where
  Kind : Int
  Retry : Bool
  Code : Int
  Name : ByteArray
  deriving Inhabited
def GAOutcome.cs (x : GAOutcome) : List C := [.int .i64 x.Kind, .bool x.Retry, .int .i64 x.Code, .str x.Name]
theorem GAOutcome.cs_length (x : GAOutcome) : (GAOutcome.cs x).length = 4 := rfl
theorem GAOutcome.cut_all (x : GAOutcome) : ((GAOutcome.cs x).drop 0).take 4 = GAOutcome.cs x := rfl
theorem GAOutcome.cut_all' (x : GAOutcome) : (((GAOutcome.cs x).map A.c).drop 0).take 4 = (GAOutcome.cs x).map A.c := rfl
theorem GAOutcome.cut_tk (x : GAOutcome) : ((GAOutcome.cs x).map A.c).take 4 = (GAOutcome.cs x).map A.c := rfl
theorem GAOutcome.cut_tk' (x : GAOutcome) : (GAOutcome.cs x).take 4 = GAOutcome.cs x := rfl
theorem GAOutcome.put_all (x y : GAOutcome) : spl ((GAOutcome.cs x).map A.c) 0 ((GAOutcome.cs y).map A.c) = (GAOutcome.cs y).map A.c := rfl
theorem GAOutcome.cut_Kind (x : GAOutcome) : ((GAOutcome.cs x).drop 0).take 1 = [.int .i64 x.Kind] := rfl
theorem GAOutcome.cat_Kind (x : GAOutcome) : (((GAOutcome.cs x).map A.c).drop 0).take 1 = [A.c (.int .i64 x.Kind)] := rfl
theorem GAOutcome.cit_Kind (x : GAOutcome) : ((GAOutcome.cs x).map A.c).take 1 = [A.c (.int .i64 x.Kind)] := rfl
theorem GAOutcome.cot_Kind (x : GAOutcome) : (GAOutcome.cs x).take 1 = [.int .i64 x.Kind] := rfl
theorem GAOutcome.pit_Kind (x : GAOutcome) (y : Int) : spl (GAOutcome.cs x) 0 [.int .i64 y] = GAOutcome.cs { x with Kind := y } := rfl
theorem GAOutcome.put_Kind (x : GAOutcome) (y : Int) : spl ((GAOutcome.cs x).map A.c) 0 [A.c (.int .i64 y)] = (GAOutcome.cs { x with Kind := y }).map A.c := rfl
theorem GAOutcome.cut_Retry (x : GAOutcome) : ((GAOutcome.cs x).drop 1).take 1 = [.bool x.Retry] := rfl
theorem GAOutcome.cat_Retry (x : GAOutcome) : (((GAOutcome.cs x).map A.c).drop 1).take 1 = [A.c (.bool x.Retry)] := rfl
theorem GAOutcome.pit_Retry (x : GAOutcome) (y : Bool) : spl (GAOutcome.cs x) 1 [.bool y] = GAOutcome.cs { x with Retry := y } := rfl
theorem GAOutcome.put_Retry (x : GAOutcome) (y : Bool) : spl ((GAOutcome.cs x).map A.c) 1 [A.c (.bool y)] = (GAOutcome.cs { x with Retry := y }).map A.c := rfl
theorem GAOutcome.cut_Code (x : GAOutcome) : ((GAOutcome.cs x).drop 2).take 1 = [.int .i64 x.Code] := rfl
theorem GAOutcome.cat_Code (x : GAOutcome) : (((GAOutcome.cs x).map A.c).drop 2).take 1 = [A.c (.int .i64 x.Code)] := rfl
theorem GAOutcome.pit_Code (x : GAOutcome) (y : Int) : spl (GAOutcome.cs x) 2 [.int .i64 y] = GAOutcome.cs { x with Code := y } := rfl
theorem GAOutcome.put_Code (x : GAOutcome) (y : Int) : spl ((GAOutcome.cs x).map A.c) 2 [A.c (.int .i64 y)] = (GAOutcome.cs { x with Code := y }).map A.c := rfl
theorem GAOutcome.cut_Name (x : GAOutcome) : ((GAOutcome.cs x).drop 3).take 1 = [.str x.Name] := rfl
theorem GAOutcome.cat_Name (x : GAOutcome) : (((GAOutcome.cs x).map A.c).drop 3).take 1 = [A.c (.str x.Name)] := rfl
theorem GAOutcome.pit_Name (x : GAOutcome) (y : ByteArray) : spl (GAOutcome.cs x) 3 [.str y] = GAOutcome.cs { x with Name := y } := rfl
theorem GAOutcome.put_Name (x : GAOutcome) (y : ByteArray) : spl ((GAOutcome.cs x).map A.c) 3 [A.c (.str y)] = (GAOutcome.cs { x with Name := y }).map A.c := rfl

structure GChannel where
  Name : ByteArray
  Queue : List GVal
  Waits : List Int
  deriving Inhabited
def GChannel.cs (x : GChannel) : List C := [.str x.Name, .sl (GVal.css x.Queue), .sl (x.Waits.map intC)]
theorem GChannel.cs_length (x : GChannel) : (GChannel.cs x).length = 3 := rfl
theorem GChannel.cut_all (x : GChannel) : ((GChannel.cs x).drop 0).take 3 = GChannel.cs x := rfl
theorem GChannel.cut_all' (x : GChannel) : (((GChannel.cs x).map A.c).drop 0).take 3 = (GChannel.cs x).map A.c := rfl
theorem GChannel.cut_tk (x : GChannel) : ((GChannel.cs x).map A.c).take 3 = (GChannel.cs x).map A.c := rfl
theorem GChannel.cut_tk' (x : GChannel) : (GChannel.cs x).take 3 = GChannel.cs x := rfl
theorem GChannel.put_all (x y : GChannel) : spl ((GChannel.cs x).map A.c) 0 ((GChannel.cs y).map A.c) = (GChannel.cs y).map A.c := rfl
theorem GChannel.cut_Name (x : GChannel) : ((GChannel.cs x).drop 0).take 1 = [.str x.Name] := rfl
theorem GChannel.cat_Name (x : GChannel) : (((GChannel.cs x).map A.c).drop 0).take 1 = [A.c (.str x.Name)] := rfl
theorem GChannel.cit_Name (x : GChannel) : ((GChannel.cs x).map A.c).take 1 = [A.c (.str x.Name)] := rfl
theorem GChannel.cot_Name (x : GChannel) : (GChannel.cs x).take 1 = [.str x.Name] := rfl
theorem GChannel.pit_Name (x : GChannel) (y : ByteArray) : spl (GChannel.cs x) 0 [.str y] = GChannel.cs { x with Name := y } := rfl
theorem GChannel.put_Name (x : GChannel) (y : ByteArray) : spl ((GChannel.cs x).map A.c) 0 [A.c (.str y)] = (GChannel.cs { x with Name := y }).map A.c := rfl
theorem GChannel.cut_Queue (x : GChannel) : ((GChannel.cs x).drop 1).take 1 = [.sl (x.Queue.map GVal.cs)] := congrArg (fun z => [C.sl z]) (GVal.css_map _)
theorem GChannel.cat_Queue (x : GChannel) : (((GChannel.cs x).map A.c).drop 1).take 1 = [A.c (.sl (x.Queue.map GVal.cs))] := congrArg (fun z => [A.c (C.sl z)]) (GVal.css_map _)
theorem GChannel.pit_Queue (x : GChannel) (y : List GVal) : spl (GChannel.cs x) 1 [.sl (y.map GVal.cs)] = GChannel.cs { x with Queue := y } := by rw [← GVal.css_map]; rfl
theorem GChannel.put_Queue (x : GChannel) (y : List GVal) : spl ((GChannel.cs x).map A.c) 1 [A.c (.sl (y.map GVal.cs))] = (GChannel.cs { x with Queue := y }).map A.c := by rw [← GVal.css_map]; rfl
theorem GChannel.cut_Waits (x : GChannel) : ((GChannel.cs x).drop 2).take 1 = [.sl (x.Waits.map intC)] := rfl
theorem GChannel.cat_Waits (x : GChannel) : (((GChannel.cs x).map A.c).drop 2).take 1 = [A.c (.sl (x.Waits.map intC))] := rfl
theorem GChannel.pit_Waits (x : GChannel) (y : List Int) : spl (GChannel.cs x) 2 [.sl (y.map intC)] = GChannel.cs { x with Waits := y } := rfl
theorem GChannel.put_Waits (x : GChannel) (y : List Int) : spl ((GChannel.cs x).map A.c) 2 [A.c (.sl (y.map intC))] = (GChannel.cs { x with Waits := y }).map A.c := rfl
mutual
def GVal.ok : GVal → Prop
  | .mk x0 x1 x2 x3 x4 => IntKind.i64.wrap x0 = x0 ∧ IntKind.i64.wrap x1 = x1 ∧ x2.size ≤ reachBytes ∧ (GVal.oks x3 ∧ x3.length * 80 ≤ reachBytes) ∧ ((∀ z ∈ x4, (fun z : ByteArray => z.size ≤ reachBytes) z) ∧ x4.length * 16 ≤ reachBytes) ∧ True
def GVal.oks : List GVal → Prop
  | [] => True
  | v :: vs => GVal.ok v ∧ GVal.oks vs
end
theorem GVal.oks_iff (vs : List GVal) : GVal.oks vs ↔ ∀ v ∈ vs, GVal.ok v := by
  induction vs with
  | nil => simp [GVal.oks]
  | cons v vs ih => simp [GVal.oks, ih]
def GPolicy.ok (x : GPolicy) : Prop := x.Queue.size ≤ reachBytes ∧ IntKind.i64.wrap x.ToStart = x.ToStart ∧ IntKind.i64.wrap x.ToClose = x.ToClose ∧ IntKind.i64.wrap x.Total = x.Total ∧ IntKind.i64.wrap x.Beat = x.Beat ∧ IntKind.i64.wrap x.First = x.First ∧ IntKind.i64.wrap x.Coef = x.Coef ∧ IntKind.i64.wrap x.Most = x.Most ∧ IntKind.i64.wrap x.Attempts = x.Attempts ∧ ((∀ z ∈ x.Fatal, (fun z : ByteArray => z.size ≤ reachBytes) z) ∧ x.Fatal.length * 16 ≤ reachBytes) ∧ True
def GAct.ok (x : GAct) : Prop := IntKind.i64.wrap x.Seq = x.Seq ∧ IntKind.i64.wrap x.Event = x.Event ∧ x.Name.size ≤ reachBytes ∧ GVal.ok x.Data ∧ GPolicy.ok x.Opts ∧ IntKind.i64.wrap x.State = x.State ∧ IntKind.i64.wrap x.Attempt = x.Attempt ∧ IntKind.i64.wrap x.Scheduled = x.Scheduled ∧ IntKind.i64.wrap x.Due = x.Due ∧ IntKind.i64.wrap x.Started = x.Started ∧ IntKind.i64.wrap x.LastBeat = x.LastBeat ∧ IntKind.i64.wrap x.Token = x.Token ∧ True ∧ GVal.ok x.Details ∧ x.Failure.size ≤ reachBytes ∧ True
def GFuture.ok (x : GFuture) : Prop := IntKind.i64.wrap x.State = x.State ∧ IntKind.i64.wrap x.Kind = x.Kind ∧ IntKind.i64.wrap x.Seq = x.Seq ∧ GVal.ok x.Result ∧ True
def GTimer.ok (x : GTimer) : Prop := IntKind.i64.wrap x.Seq = x.Seq ∧ IntKind.i64.wrap x.Event = x.Event ∧ IntKind.i64.wrap x.Due = x.Due ∧ True
def GKid.ok (x : GKid) : Prop := IntKind.i64.wrap x.Seq = x.Seq ∧ IntKind.i64.wrap x.Event = x.Event ∧ x.Key.size ≤ reachBytes ∧ x.Name.size ≤ reachBytes ∧ IntKind.i64.wrap x.Policy = x.Policy ∧ x.Run.size ≤ reachBytes ∧ True
def GSend.ok (x : GSend) : Prop := IntKind.i64.wrap x.Seq = x.Seq ∧ IntKind.i64.wrap x.Event = x.Event ∧ x.Key.size ≤ reachBytes ∧ x.Name.size ≤ reachBytes ∧ True
def GUpd.ok (x : GUpd) : Prop := x.Key.size ≤ reachBytes ∧ True ∧ True
def GPending.ok (x : GPending) : Prop := IntKind.i64.wrap x.Next = x.Next ∧ IntKind.i64.wrap x.Status = x.Status ∧ IntKind.i64.wrap x.Task = x.Task ∧ IntKind.i64.wrap x.TaskID = x.TaskID ∧ IntKind.i64.wrap x.Attempt = x.Attempt ∧ IntKind.i64.wrap x.Seq = x.Seq ∧ x.Name.size ≤ reachBytes ∧ GVal.ok x.Input ∧ GVal.ok x.Attrs ∧ True ∧ ((∀ z ∈ x.Acts, GAct.ok z) ∧ x.Acts.length * 376 ≤ reachBytes) ∧ ((∀ z ∈ x.Timers, GTimer.ok z) ∧ x.Timers.length * 24 ≤ reachBytes) ∧ ((∀ z ∈ x.Kids, GKid.ok z) ∧ x.Kids.length * 72 ≤ reachBytes) ∧ ((∀ z ∈ x.Sends, GSend.ok z) ∧ x.Sends.length * 48 ≤ reachBytes) ∧ ((∀ z ∈ x.Updates, GUpd.ok z) ∧ x.Updates.length * 24 ≤ reachBytes) ∧ ((∀ z ∈ x.Requests, (fun z : ByteArray => z.size ≤ reachBytes) z) ∧ x.Requests.length * 16 ≤ reachBytes) ∧ True
def GAdmit.ok (x : GAdmit) : Prop := x.Key.size ≤ reachBytes ∧ x.Name.size ≤ reachBytes ∧ GVal.ok x.Data ∧ True
def GEvent.ok (x : GEvent) : Prop := IntKind.i64.wrap x.ID = x.ID ∧ IntKind.i64.wrap x.Kind = x.Kind ∧ IntKind.i64.wrap x.Time = x.Time ∧ IntKind.i64.wrap x.Seq = x.Seq ∧ IntKind.i64.wrap x.Ref = x.Ref ∧ IntKind.i64.wrap x.N = x.N ∧ IntKind.i64.wrap x.Code = x.Code ∧ x.Name.size ≤ reachBytes ∧ x.Key.size ≤ reachBytes ∧ GVal.ok x.Data ∧ GPolicy.ok x.Opts ∧ True
def GTask.ok (x : GTask) : Prop := IntKind.i64.wrap x.ID = x.ID ∧ IntKind.i64.wrap x.Kind = x.Kind ∧ IntKind.i64.wrap x.Event = x.Event ∧ IntKind.i64.wrap x.Seq = x.Seq ∧ IntKind.i64.wrap x.Due = x.Due ∧ IntKind.i64.wrap x.Attempt = x.Attempt ∧ x.Workflow.size ≤ reachBytes ∧ x.Run.size ≤ reachBytes ∧ x.Queue.size ≤ reachBytes ∧ True
def GRun.ok (x : GRun) : Prop := x.Workflow.size ≤ reachBytes ∧ x.ID.size ≤ reachBytes ∧ x.Parent.size ≤ reachBytes ∧ IntKind.i64.wrap x.ParentSeq = x.ParentSeq ∧ ((∀ z ∈ x.History, GEvent.ok z) ∧ x.History.length * 272 ≤ reachBytes) ∧ GPending.ok x.Pending ∧ ((∀ z ∈ x.Buffer, GEvent.ok z) ∧ x.Buffer.length * 272 ≤ reachBytes) ∧ ((∀ z ∈ x.Admits, GAdmit.ok z) ∧ x.Admits.length * 112 ≤ reachBytes) ∧ ((∀ z ∈ x.Tasks, GTask.ok z) ∧ x.Tasks.length * 96 ≤ reachBytes) ∧ IntKind.i64.wrap x.NextTask = x.NextTask ∧ IntKind.i64.wrap x.Version = x.Version ∧ True
def GCommand.ok (x : GCommand) : Prop := IntKind.i64.wrap x.Kind = x.Kind ∧ IntKind.i64.wrap x.Seq = x.Seq ∧ x.Name.size ≤ reachBytes ∧ x.Key.size ≤ reachBytes ∧ IntKind.i64.wrap x.N = x.N ∧ GVal.ok x.Data ∧ GPolicy.ok x.Opts ∧ True
def GOOutcome.ok (x : GOOutcome) : Prop := IntKind.i64.wrap x.Kind = x.Kind ∧ IntKind.i64.wrap x.Ticks = x.Ticks ∧ x.Failure.size ≤ reachBytes ∧ GVal.ok x.Data ∧ True
def GRule.ok (x : GRule) : Prop := x.Name.size ≤ reachBytes ∧ IntKind.i64.wrap x.Fails = x.Fails ∧ x.Failure.size ≤ reachBytes ∧ IntKind.i64.wrap x.Ticks = x.Ticks ∧ True ∧ GVal.ok x.Result ∧ True
def GAOutcome.ok (x : GAOutcome) : Prop := IntKind.i64.wrap x.Kind = x.Kind ∧ True ∧ IntKind.i64.wrap x.Code = x.Code ∧ x.Name.size ≤ reachBytes ∧ True
def GChannel.ok (x : GChannel) : Prop := x.Name.size ≤ reachBytes ∧ ((∀ z ∈ x.Queue, GVal.ok z) ∧ x.Queue.length * 80 ≤ reachBytes) ∧ ((∀ z ∈ x.Waits, (fun m : Int => IntKind.i64.wrap m = m) z) ∧ x.Waits.length * 8 ≤ reachBytes) ∧ True

attribute [go_sem] GVal.cut_all GVal.cut_all' GVal.cut_tk GVal.cut_tk' GVal.cut_Kind GVal.cat_Kind GVal.cit_Kind GVal.cot_Kind GVal.cut_Num GVal.cat_Num GVal.cut_Text GVal.cat_Text GVal.cut_Items GVal.cat_Items GVal.cut_Keys GVal.cat_Keys GPolicy.cut_all GPolicy.cut_all' GPolicy.cut_tk GPolicy.cut_tk' GPolicy.cut_Queue GPolicy.cat_Queue GPolicy.cit_Queue GPolicy.cot_Queue GPolicy.cut_ToStart GPolicy.cat_ToStart GPolicy.cut_ToClose GPolicy.cat_ToClose GPolicy.cut_Total GPolicy.cat_Total GPolicy.cut_Beat GPolicy.cat_Beat GPolicy.cut_First GPolicy.cat_First GPolicy.cut_Coef GPolicy.cat_Coef GPolicy.cut_Most GPolicy.cat_Most GPolicy.cut_Attempts GPolicy.cat_Attempts GPolicy.cut_Fatal GPolicy.cat_Fatal GAct.cut_all GAct.cut_all' GAct.cut_tk GAct.cut_tk' GAct.cut_Seq GAct.cat_Seq GAct.cit_Seq GAct.cot_Seq GAct.cut_Event GAct.cat_Event GAct.cut_Name GAct.cat_Name GAct.cut_Data GAct.cat_Data GAct.cut_Data_Kind GAct.cat_Data_Kind GAct.cut_Data_Num GAct.cat_Data_Num GAct.cut_Data_Text GAct.cat_Data_Text GAct.cut_Data_Items GAct.cat_Data_Items GAct.cut_Data_Keys GAct.cat_Data_Keys GAct.cut_Opts GAct.cat_Opts GAct.cut_Opts_Queue GAct.cat_Opts_Queue GAct.cut_Opts_ToStart GAct.cat_Opts_ToStart GAct.cut_Opts_ToClose GAct.cat_Opts_ToClose GAct.cut_Opts_Total GAct.cat_Opts_Total GAct.cut_Opts_Beat GAct.cat_Opts_Beat GAct.cut_Opts_First GAct.cat_Opts_First GAct.cut_Opts_Coef GAct.cat_Opts_Coef GAct.cut_Opts_Most GAct.cat_Opts_Most GAct.cut_Opts_Attempts GAct.cat_Opts_Attempts GAct.cut_Opts_Fatal GAct.cat_Opts_Fatal GAct.cut_State GAct.cat_State GAct.cut_Attempt GAct.cat_Attempt GAct.cut_Scheduled GAct.cat_Scheduled GAct.cut_Due GAct.cat_Due GAct.cut_Started GAct.cat_Started GAct.cut_LastBeat GAct.cat_LastBeat GAct.cut_Token GAct.cat_Token GAct.cut_Cancel GAct.cat_Cancel GAct.cut_Details GAct.cat_Details GAct.cut_Details_Kind GAct.cat_Details_Kind GAct.cut_Details_Num GAct.cat_Details_Num GAct.cut_Details_Text GAct.cat_Details_Text GAct.cut_Details_Items GAct.cat_Details_Items GAct.cut_Details_Keys GAct.cat_Details_Keys GAct.cut_Failure GAct.cat_Failure GFuture.cut_all GFuture.cut_all' GFuture.cut_tk GFuture.cut_tk' GFuture.cut_State GFuture.cat_State GFuture.cit_State GFuture.cot_State GFuture.cut_Kind GFuture.cat_Kind GFuture.cut_Seq GFuture.cat_Seq GFuture.cut_Result GFuture.cat_Result GFuture.cut_Result_Kind GFuture.cat_Result_Kind GFuture.cut_Result_Num GFuture.cat_Result_Num GFuture.cut_Result_Text GFuture.cat_Result_Text GFuture.cut_Result_Items GFuture.cat_Result_Items GFuture.cut_Result_Keys GFuture.cat_Result_Keys GTimer.cut_all GTimer.cut_all' GTimer.cut_tk GTimer.cut_tk' GTimer.cut_Seq GTimer.cat_Seq GTimer.cit_Seq GTimer.cot_Seq GTimer.cut_Event GTimer.cat_Event GTimer.cut_Due GTimer.cat_Due GKid.cut_all GKid.cut_all' GKid.cut_tk GKid.cut_tk' GKid.cut_Seq GKid.cat_Seq GKid.cit_Seq GKid.cot_Seq GKid.cut_Event GKid.cat_Event GKid.cut_Key GKid.cat_Key GKid.cut_Name GKid.cat_Name GKid.cut_Policy GKid.cat_Policy GKid.cut_Run GKid.cat_Run GSend.cut_all GSend.cut_all' GSend.cut_tk GSend.cut_tk' GSend.cut_Seq GSend.cat_Seq GSend.cit_Seq GSend.cot_Seq GSend.cut_Event GSend.cat_Event GSend.cut_Key GSend.cat_Key GSend.cut_Name GSend.cat_Name GUpd.cut_all GUpd.cut_all' GUpd.cut_tk GUpd.cut_tk' GUpd.cut_Key GUpd.cat_Key GUpd.cit_Key GUpd.cot_Key GUpd.cut_Done GUpd.cat_Done GPending.cut_all GPending.cut_all' GPending.cut_tk GPending.cut_tk' GPending.cut_Next GPending.cat_Next GPending.cit_Next GPending.cot_Next GPending.cut_Status GPending.cat_Status GPending.cut_Task GPending.cat_Task GPending.cut_TaskID GPending.cat_TaskID GPending.cut_Attempt GPending.cat_Attempt GPending.cut_Seq GPending.cat_Seq GPending.cut_Name GPending.cat_Name GPending.cut_Input GPending.cat_Input GPending.cut_Input_Kind GPending.cat_Input_Kind GPending.cut_Input_Num GPending.cat_Input_Num GPending.cut_Input_Text GPending.cat_Input_Text GPending.cut_Input_Items GPending.cat_Input_Items GPending.cut_Input_Keys GPending.cat_Input_Keys GPending.cut_Attrs GPending.cat_Attrs GPending.cut_Attrs_Kind GPending.cat_Attrs_Kind GPending.cut_Attrs_Num GPending.cat_Attrs_Num GPending.cut_Attrs_Text GPending.cat_Attrs_Text GPending.cut_Attrs_Items GPending.cat_Attrs_Items GPending.cut_Attrs_Keys GPending.cat_Attrs_Keys GPending.cut_Cancel GPending.cat_Cancel GPending.cut_Acts GPending.cat_Acts GPending.cut_Timers GPending.cat_Timers GPending.cut_Kids GPending.cat_Kids GPending.cut_Sends GPending.cat_Sends GPending.cut_Updates GPending.cat_Updates GPending.cut_Requests GPending.cat_Requests GAdmit.cut_all GAdmit.cut_all' GAdmit.cut_tk GAdmit.cut_tk' GAdmit.cut_Key GAdmit.cat_Key GAdmit.cit_Key GAdmit.cot_Key GAdmit.cut_Name GAdmit.cat_Name GAdmit.cut_Data GAdmit.cat_Data GAdmit.cut_Data_Kind GAdmit.cat_Data_Kind GAdmit.cut_Data_Num GAdmit.cat_Data_Num GAdmit.cut_Data_Text GAdmit.cat_Data_Text GAdmit.cut_Data_Items GAdmit.cat_Data_Items GAdmit.cut_Data_Keys GAdmit.cat_Data_Keys GEvent.cut_all GEvent.cut_all' GEvent.cut_tk GEvent.cut_tk' GEvent.cut_ID GEvent.cat_ID GEvent.cit_ID GEvent.cot_ID GEvent.cut_Kind GEvent.cat_Kind GEvent.cut_Time GEvent.cat_Time GEvent.cut_Seq GEvent.cat_Seq GEvent.cut_Ref GEvent.cat_Ref GEvent.cut_N GEvent.cat_N GEvent.cut_Code GEvent.cat_Code GEvent.cut_Name GEvent.cat_Name GEvent.cut_Key GEvent.cat_Key GEvent.cut_Data GEvent.cat_Data GEvent.cut_Data_Kind GEvent.cat_Data_Kind GEvent.cut_Data_Num GEvent.cat_Data_Num GEvent.cut_Data_Text GEvent.cat_Data_Text GEvent.cut_Data_Items GEvent.cat_Data_Items GEvent.cut_Data_Keys GEvent.cat_Data_Keys GEvent.cut_Opts GEvent.cat_Opts GEvent.cut_Opts_Queue GEvent.cat_Opts_Queue GEvent.cut_Opts_ToStart GEvent.cat_Opts_ToStart GEvent.cut_Opts_ToClose GEvent.cat_Opts_ToClose GEvent.cut_Opts_Total GEvent.cat_Opts_Total GEvent.cut_Opts_Beat GEvent.cat_Opts_Beat GEvent.cut_Opts_First GEvent.cat_Opts_First GEvent.cut_Opts_Coef GEvent.cat_Opts_Coef GEvent.cut_Opts_Most GEvent.cat_Opts_Most GEvent.cut_Opts_Attempts GEvent.cat_Opts_Attempts GEvent.cut_Opts_Fatal GEvent.cat_Opts_Fatal GTask.cut_all GTask.cut_all' GTask.cut_tk GTask.cut_tk' GTask.cut_ID GTask.cat_ID GTask.cit_ID GTask.cot_ID GTask.cut_Kind GTask.cat_Kind GTask.cut_Event GTask.cat_Event GTask.cut_Seq GTask.cat_Seq GTask.cut_Due GTask.cat_Due GTask.cut_Attempt GTask.cat_Attempt GTask.cut_Workflow GTask.cat_Workflow GTask.cut_Run GTask.cat_Run GTask.cut_Queue GTask.cat_Queue GRun.cut_all GRun.cut_all' GRun.cut_tk GRun.cut_tk' GRun.cut_Workflow GRun.cat_Workflow GRun.cit_Workflow GRun.cot_Workflow GRun.cut_ID GRun.cat_ID GRun.cut_Parent GRun.cat_Parent GRun.cut_ParentSeq GRun.cat_ParentSeq GRun.cut_History GRun.cat_History GRun.cut_Pending GRun.cat_Pending GRun.cut_Pending_Next GRun.cat_Pending_Next GRun.cut_Pending_Status GRun.cat_Pending_Status GRun.cut_Pending_Task GRun.cat_Pending_Task GRun.cut_Pending_TaskID GRun.cat_Pending_TaskID GRun.cut_Pending_Attempt GRun.cat_Pending_Attempt GRun.cut_Pending_Seq GRun.cat_Pending_Seq GRun.cut_Pending_Name GRun.cat_Pending_Name GRun.cut_Pending_Input GRun.cat_Pending_Input GRun.cut_Pending_Input_Kind GRun.cat_Pending_Input_Kind GRun.cut_Pending_Input_Num GRun.cat_Pending_Input_Num GRun.cut_Pending_Input_Text GRun.cat_Pending_Input_Text GRun.cut_Pending_Input_Items GRun.cat_Pending_Input_Items GRun.cut_Pending_Input_Keys GRun.cat_Pending_Input_Keys GRun.cut_Pending_Attrs GRun.cat_Pending_Attrs GRun.cut_Pending_Attrs_Kind GRun.cat_Pending_Attrs_Kind GRun.cut_Pending_Attrs_Num GRun.cat_Pending_Attrs_Num GRun.cut_Pending_Attrs_Text GRun.cat_Pending_Attrs_Text GRun.cut_Pending_Attrs_Items GRun.cat_Pending_Attrs_Items GRun.cut_Pending_Attrs_Keys GRun.cat_Pending_Attrs_Keys GRun.cut_Pending_Cancel GRun.cat_Pending_Cancel GRun.cut_Pending_Acts GRun.cat_Pending_Acts GRun.cut_Pending_Timers GRun.cat_Pending_Timers GRun.cut_Pending_Kids GRun.cat_Pending_Kids GRun.cut_Pending_Sends GRun.cat_Pending_Sends GRun.cut_Pending_Updates GRun.cat_Pending_Updates GRun.cut_Pending_Requests GRun.cat_Pending_Requests GRun.cut_Buffer GRun.cat_Buffer GRun.cut_Admits GRun.cat_Admits GRun.cut_Tasks GRun.cat_Tasks GRun.cut_NextTask GRun.cat_NextTask GRun.cut_Version GRun.cat_Version GCommand.cut_all GCommand.cut_all' GCommand.cut_tk GCommand.cut_tk' GCommand.cut_Kind GCommand.cat_Kind GCommand.cit_Kind GCommand.cot_Kind GCommand.cut_Seq GCommand.cat_Seq GCommand.cut_Name GCommand.cat_Name GCommand.cut_Key GCommand.cat_Key GCommand.cut_N GCommand.cat_N GCommand.cut_Data GCommand.cat_Data GCommand.cut_Data_Kind GCommand.cat_Data_Kind GCommand.cut_Data_Num GCommand.cat_Data_Num GCommand.cut_Data_Text GCommand.cat_Data_Text GCommand.cut_Data_Items GCommand.cat_Data_Items GCommand.cut_Data_Keys GCommand.cat_Data_Keys GCommand.cut_Opts GCommand.cat_Opts GCommand.cut_Opts_Queue GCommand.cat_Opts_Queue GCommand.cut_Opts_ToStart GCommand.cat_Opts_ToStart GCommand.cut_Opts_ToClose GCommand.cat_Opts_ToClose GCommand.cut_Opts_Total GCommand.cat_Opts_Total GCommand.cut_Opts_Beat GCommand.cat_Opts_Beat GCommand.cut_Opts_First GCommand.cat_Opts_First GCommand.cut_Opts_Coef GCommand.cat_Opts_Coef GCommand.cut_Opts_Most GCommand.cat_Opts_Most GCommand.cut_Opts_Attempts GCommand.cat_Opts_Attempts GCommand.cut_Opts_Fatal GCommand.cat_Opts_Fatal GOOutcome.cut_all GOOutcome.cut_all' GOOutcome.cut_tk GOOutcome.cut_tk' GOOutcome.cut_Kind GOOutcome.cat_Kind GOOutcome.cit_Kind GOOutcome.cot_Kind GOOutcome.cut_Ticks GOOutcome.cat_Ticks GOOutcome.cut_Failure GOOutcome.cat_Failure GOOutcome.cut_Data GOOutcome.cat_Data GOOutcome.cut_Data_Kind GOOutcome.cat_Data_Kind GOOutcome.cut_Data_Num GOOutcome.cat_Data_Num GOOutcome.cut_Data_Text GOOutcome.cat_Data_Text GOOutcome.cut_Data_Items GOOutcome.cat_Data_Items GOOutcome.cut_Data_Keys GOOutcome.cat_Data_Keys GRule.cut_all GRule.cut_all' GRule.cut_tk GRule.cut_tk' GRule.cut_Name GRule.cat_Name GRule.cit_Name GRule.cot_Name GRule.cut_Fails GRule.cat_Fails GRule.cut_Failure GRule.cat_Failure GRule.cut_Ticks GRule.cat_Ticks GRule.cut_Echo GRule.cat_Echo GRule.cut_Result GRule.cat_Result GRule.cut_Result_Kind GRule.cat_Result_Kind GRule.cut_Result_Num GRule.cat_Result_Num GRule.cut_Result_Text GRule.cat_Result_Text GRule.cut_Result_Items GRule.cat_Result_Items GRule.cut_Result_Keys GRule.cat_Result_Keys GAOutcome.cut_all GAOutcome.cut_all' GAOutcome.cut_tk GAOutcome.cut_tk' GAOutcome.cut_Kind GAOutcome.cat_Kind GAOutcome.cit_Kind GAOutcome.cot_Kind GAOutcome.cut_Retry GAOutcome.cat_Retry GAOutcome.cut_Code GAOutcome.cat_Code GAOutcome.cut_Name GAOutcome.cat_Name GChannel.cut_all GChannel.cut_all' GChannel.cut_tk GChannel.cut_tk' GChannel.cut_Name GChannel.cat_Name GChannel.cit_Name GChannel.cot_Name GChannel.cut_Queue GChannel.cat_Queue GChannel.cut_Waits GChannel.cat_Waits GVal.put_all GVal.pit_Kind GVal.put_Kind GVal.pit_Num GVal.put_Num GVal.pit_Text GVal.put_Text GVal.pit_Items GVal.put_Items GVal.pit_Keys GVal.put_Keys GPolicy.put_all GPolicy.pit_Queue GPolicy.put_Queue GPolicy.pit_ToStart GPolicy.put_ToStart GPolicy.pit_ToClose GPolicy.put_ToClose GPolicy.pit_Total GPolicy.put_Total GPolicy.pit_Beat GPolicy.put_Beat GPolicy.pit_First GPolicy.put_First GPolicy.pit_Coef GPolicy.put_Coef GPolicy.pit_Most GPolicy.put_Most GPolicy.pit_Attempts GPolicy.put_Attempts GPolicy.pit_Fatal GPolicy.put_Fatal GAct.put_all GAct.pit_Seq GAct.put_Seq GAct.pit_Event GAct.put_Event GAct.pit_Name GAct.put_Name GAct.pit_Data GAct.put_Data GAct.pit_Data_Kind GAct.put_Data_Kind GAct.pit_Data_Num GAct.put_Data_Num GAct.pit_Data_Text GAct.put_Data_Text GAct.pit_Data_Items GAct.put_Data_Items GAct.pit_Data_Keys GAct.put_Data_Keys GAct.pit_Opts GAct.put_Opts GAct.pit_Opts_Queue GAct.put_Opts_Queue GAct.pit_Opts_ToStart GAct.put_Opts_ToStart GAct.pit_Opts_ToClose GAct.put_Opts_ToClose GAct.pit_Opts_Total GAct.put_Opts_Total GAct.pit_Opts_Beat GAct.put_Opts_Beat GAct.pit_Opts_First GAct.put_Opts_First GAct.pit_Opts_Coef GAct.put_Opts_Coef GAct.pit_Opts_Most GAct.put_Opts_Most GAct.pit_Opts_Attempts GAct.put_Opts_Attempts GAct.pit_Opts_Fatal GAct.put_Opts_Fatal GAct.pit_State GAct.put_State GAct.pit_Attempt GAct.put_Attempt GAct.pit_Scheduled GAct.put_Scheduled GAct.pit_Due GAct.put_Due GAct.pit_Started GAct.put_Started GAct.pit_LastBeat GAct.put_LastBeat GAct.pit_Token GAct.put_Token GAct.pit_Cancel GAct.put_Cancel GAct.pit_Details GAct.put_Details GAct.pit_Details_Kind GAct.put_Details_Kind GAct.pit_Details_Num GAct.put_Details_Num GAct.pit_Details_Text GAct.put_Details_Text GAct.pit_Details_Items GAct.put_Details_Items GAct.pit_Details_Keys GAct.put_Details_Keys GAct.pit_Failure GAct.put_Failure GFuture.put_all GFuture.pit_State GFuture.put_State GFuture.pit_Kind GFuture.put_Kind GFuture.pit_Seq GFuture.put_Seq GFuture.pit_Result GFuture.put_Result GFuture.pit_Result_Kind GFuture.put_Result_Kind GFuture.pit_Result_Num GFuture.put_Result_Num GFuture.pit_Result_Text GFuture.put_Result_Text GFuture.pit_Result_Items GFuture.put_Result_Items GFuture.pit_Result_Keys GFuture.put_Result_Keys GTimer.put_all GTimer.pit_Seq GTimer.put_Seq GTimer.pit_Event GTimer.put_Event GTimer.pit_Due GTimer.put_Due GKid.put_all GKid.pit_Seq GKid.put_Seq GKid.pit_Event GKid.put_Event GKid.pit_Key GKid.put_Key GKid.pit_Name GKid.put_Name GKid.pit_Policy GKid.put_Policy GKid.pit_Run GKid.put_Run GSend.put_all GSend.pit_Seq GSend.put_Seq GSend.pit_Event GSend.put_Event GSend.pit_Key GSend.put_Key GSend.pit_Name GSend.put_Name GUpd.put_all GUpd.pit_Key GUpd.put_Key GUpd.pit_Done GUpd.put_Done GPending.put_all GPending.pit_Next GPending.put_Next GPending.pit_Status GPending.put_Status GPending.pit_Task GPending.put_Task GPending.pit_TaskID GPending.put_TaskID GPending.pit_Attempt GPending.put_Attempt GPending.pit_Seq GPending.put_Seq GPending.pit_Name GPending.put_Name GPending.pit_Input GPending.put_Input GPending.pit_Input_Kind GPending.put_Input_Kind GPending.pit_Input_Num GPending.put_Input_Num GPending.pit_Input_Text GPending.put_Input_Text GPending.pit_Input_Items GPending.put_Input_Items GPending.pit_Input_Keys GPending.put_Input_Keys GPending.pit_Attrs GPending.put_Attrs GPending.pit_Attrs_Kind GPending.put_Attrs_Kind GPending.pit_Attrs_Num GPending.put_Attrs_Num GPending.pit_Attrs_Text GPending.put_Attrs_Text GPending.pit_Attrs_Items GPending.put_Attrs_Items GPending.pit_Attrs_Keys GPending.put_Attrs_Keys GPending.pit_Cancel GPending.put_Cancel GPending.pit_Acts GPending.put_Acts GPending.pit_Timers GPending.put_Timers GPending.pit_Kids GPending.put_Kids GPending.pit_Sends GPending.put_Sends GPending.pit_Updates GPending.put_Updates GPending.pit_Requests GPending.put_Requests GAdmit.put_all GAdmit.pit_Key GAdmit.put_Key GAdmit.pit_Name GAdmit.put_Name GAdmit.pit_Data GAdmit.put_Data GAdmit.pit_Data_Kind GAdmit.put_Data_Kind GAdmit.pit_Data_Num GAdmit.put_Data_Num GAdmit.pit_Data_Text GAdmit.put_Data_Text GAdmit.pit_Data_Items GAdmit.put_Data_Items GAdmit.pit_Data_Keys GAdmit.put_Data_Keys GEvent.put_all GEvent.pit_ID GEvent.put_ID GEvent.pit_Kind GEvent.put_Kind GEvent.pit_Time GEvent.put_Time GEvent.pit_Seq GEvent.put_Seq GEvent.pit_Ref GEvent.put_Ref GEvent.pit_N GEvent.put_N GEvent.pit_Code GEvent.put_Code GEvent.pit_Name GEvent.put_Name GEvent.pit_Key GEvent.put_Key GEvent.pit_Data GEvent.put_Data GEvent.pit_Data_Kind GEvent.put_Data_Kind GEvent.pit_Data_Num GEvent.put_Data_Num GEvent.pit_Data_Text GEvent.put_Data_Text GEvent.pit_Data_Items GEvent.put_Data_Items GEvent.pit_Data_Keys GEvent.put_Data_Keys GEvent.pit_Opts GEvent.put_Opts GEvent.pit_Opts_Queue GEvent.put_Opts_Queue GEvent.pit_Opts_ToStart GEvent.put_Opts_ToStart GEvent.pit_Opts_ToClose GEvent.put_Opts_ToClose GEvent.pit_Opts_Total GEvent.put_Opts_Total GEvent.pit_Opts_Beat GEvent.put_Opts_Beat GEvent.pit_Opts_First GEvent.put_Opts_First GEvent.pit_Opts_Coef GEvent.put_Opts_Coef GEvent.pit_Opts_Most GEvent.put_Opts_Most GEvent.pit_Opts_Attempts GEvent.put_Opts_Attempts GEvent.pit_Opts_Fatal GEvent.put_Opts_Fatal GTask.put_all GTask.pit_ID GTask.put_ID GTask.pit_Kind GTask.put_Kind GTask.pit_Event GTask.put_Event GTask.pit_Seq GTask.put_Seq GTask.pit_Due GTask.put_Due GTask.pit_Attempt GTask.put_Attempt GTask.pit_Workflow GTask.put_Workflow GTask.pit_Run GTask.put_Run GTask.pit_Queue GTask.put_Queue GRun.put_all GRun.pit_Workflow GRun.put_Workflow GRun.pit_ID GRun.put_ID GRun.pit_Parent GRun.put_Parent GRun.pit_ParentSeq GRun.put_ParentSeq GRun.pit_History GRun.put_History GRun.pit_Pending GRun.put_Pending GRun.pit_Pending_Next GRun.put_Pending_Next GRun.pit_Pending_Status GRun.put_Pending_Status GRun.pit_Pending_Task GRun.put_Pending_Task GRun.pit_Pending_TaskID GRun.put_Pending_TaskID GRun.pit_Pending_Attempt GRun.put_Pending_Attempt GRun.pit_Pending_Seq GRun.put_Pending_Seq GRun.pit_Pending_Name GRun.put_Pending_Name GRun.pit_Pending_Input GRun.put_Pending_Input GRun.pit_Pending_Input_Kind GRun.put_Pending_Input_Kind GRun.pit_Pending_Input_Num GRun.put_Pending_Input_Num GRun.pit_Pending_Input_Text GRun.put_Pending_Input_Text GRun.pit_Pending_Input_Items GRun.put_Pending_Input_Items GRun.pit_Pending_Input_Keys GRun.put_Pending_Input_Keys GRun.pit_Pending_Attrs GRun.put_Pending_Attrs GRun.pit_Pending_Attrs_Kind GRun.put_Pending_Attrs_Kind GRun.pit_Pending_Attrs_Num GRun.put_Pending_Attrs_Num GRun.pit_Pending_Attrs_Text GRun.put_Pending_Attrs_Text GRun.pit_Pending_Attrs_Items GRun.put_Pending_Attrs_Items GRun.pit_Pending_Attrs_Keys GRun.put_Pending_Attrs_Keys GRun.pit_Pending_Cancel GRun.put_Pending_Cancel GRun.pit_Pending_Acts GRun.put_Pending_Acts GRun.pit_Pending_Timers GRun.put_Pending_Timers GRun.pit_Pending_Kids GRun.put_Pending_Kids GRun.pit_Pending_Sends GRun.put_Pending_Sends GRun.pit_Pending_Updates GRun.put_Pending_Updates GRun.pit_Pending_Requests GRun.put_Pending_Requests GRun.pit_Buffer GRun.put_Buffer GRun.pit_Admits GRun.put_Admits GRun.pit_Tasks GRun.put_Tasks GRun.pit_NextTask GRun.put_NextTask GRun.pit_Version GRun.put_Version GCommand.put_all GCommand.pit_Kind GCommand.put_Kind GCommand.pit_Seq GCommand.put_Seq GCommand.pit_Name GCommand.put_Name GCommand.pit_Key GCommand.put_Key GCommand.pit_N GCommand.put_N GCommand.pit_Data GCommand.put_Data GCommand.pit_Data_Kind GCommand.put_Data_Kind GCommand.pit_Data_Num GCommand.put_Data_Num GCommand.pit_Data_Text GCommand.put_Data_Text GCommand.pit_Data_Items GCommand.put_Data_Items GCommand.pit_Data_Keys GCommand.put_Data_Keys GCommand.pit_Opts GCommand.put_Opts GCommand.pit_Opts_Queue GCommand.put_Opts_Queue GCommand.pit_Opts_ToStart GCommand.put_Opts_ToStart GCommand.pit_Opts_ToClose GCommand.put_Opts_ToClose GCommand.pit_Opts_Total GCommand.put_Opts_Total GCommand.pit_Opts_Beat GCommand.put_Opts_Beat GCommand.pit_Opts_First GCommand.put_Opts_First GCommand.pit_Opts_Coef GCommand.put_Opts_Coef GCommand.pit_Opts_Most GCommand.put_Opts_Most GCommand.pit_Opts_Attempts GCommand.put_Opts_Attempts GCommand.pit_Opts_Fatal GCommand.put_Opts_Fatal GOOutcome.put_all GOOutcome.pit_Kind GOOutcome.put_Kind GOOutcome.pit_Ticks GOOutcome.put_Ticks GOOutcome.pit_Failure GOOutcome.put_Failure GOOutcome.pit_Data GOOutcome.put_Data GOOutcome.pit_Data_Kind GOOutcome.put_Data_Kind GOOutcome.pit_Data_Num GOOutcome.put_Data_Num GOOutcome.pit_Data_Text GOOutcome.put_Data_Text GOOutcome.pit_Data_Items GOOutcome.put_Data_Items GOOutcome.pit_Data_Keys GOOutcome.put_Data_Keys GRule.put_all GRule.pit_Name GRule.put_Name GRule.pit_Fails GRule.put_Fails GRule.pit_Failure GRule.put_Failure GRule.pit_Ticks GRule.put_Ticks GRule.pit_Echo GRule.put_Echo GRule.pit_Result GRule.put_Result GRule.pit_Result_Kind GRule.put_Result_Kind GRule.pit_Result_Num GRule.put_Result_Num GRule.pit_Result_Text GRule.put_Result_Text GRule.pit_Result_Items GRule.put_Result_Items GRule.pit_Result_Keys GRule.put_Result_Keys GAOutcome.put_all GAOutcome.pit_Kind GAOutcome.put_Kind GAOutcome.pit_Retry GAOutcome.put_Retry GAOutcome.pit_Code GAOutcome.put_Code GAOutcome.pit_Name GAOutcome.put_Name GChannel.put_all GChannel.pit_Name GChannel.put_Name GChannel.pit_Queue GChannel.put_Queue GChannel.pit_Waits GChannel.put_Waits GVal.cs_length GPolicy.cs_length GAct.cs_length GFuture.cs_length GTimer.cs_length GKid.cs_length GSend.cs_length GUpd.cs_length GPending.cs_length GAdmit.cs_length GEvent.cs_length GTask.cs_length GRun.cs_length GCommand.cs_length GOOutcome.cs_length GRule.cs_length GAOutcome.cs_length GChannel.cs_length
end Go.AV
