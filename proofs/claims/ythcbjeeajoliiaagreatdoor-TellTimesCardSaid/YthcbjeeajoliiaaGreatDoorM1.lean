/- The plain model of the program: what each Go function computes, over lists and numbers alone. -/
namespace Go.Proofs.YthcbjeeajoliiaaGreatDoor
namespace Cr

abbrev Str := List UInt8

structure Fld where
  name : Str
  value : Str
deriving DecidableEq
structure Req where
  method : Str
  target : Str
  fields : List Fld
  body : Str
  close : Bool
deriving DecidableEq
structure Resp where
  status : Int
  fields : List Fld
  body : Str
  close : Bool
deriving DecidableEq
structure Rou where
  method : Str
  pattern : Str
  handler : Str
deriving DecidableEq
structure Par where
  name : Str
  value : Str
deriving DecidableEq
structure Mat where
  handler : Str
  params : List Par
  allow : List Str
deriving DecidableEq
structure Cfg where
  conns : Int
  jobs : Int
  workers : Int
  window : Int
  idle : Int
  drain : Int
  token : Str
deriving DecidableEq
structure ActM where
  kind : Int
  conn : Int
  n : Int
  data : Str
deriving DecidableEq
structure Dn where
  conn : Int
  seq : Int
  version : Int
  req : Req
  resp : Resp
deriving DecidableEq

def Req.nil : Req := ⟨[], [], [], [], false⟩
def Resp.nil : Resp := ⟨0, [], [], false⟩

/- ascii -/
def letter (c : UInt8) : Bool := decide (97 ≤ (c ||| 32)) && decide ((c ||| 32) ≤ 122)
def mark (c : UInt8) : Bool := [33, 35, 36, 37, 38, 39, 42, 43, 45, 46, 94, 95, 124, 126, 96].contains c || (letter c || (decide (48 ≤ c) && decide (c ≤ 57)))
def token (s : Str) : Bool := s.all mark && !s.isEmpty
def lower (s : Str) : Str := s.map fun c => if 65 ≤ c ∧ c ≤ 90 then c + 32 else c
def blank (c : UInt8) : Bool := c == 32 || c == 9
def trim (s : Str) : Str := ((s.dropWhile blank).reverse.dropWhile blank).reverse
def value (s : Str) : Bool := s.all fun c => !(decide (c < 32) && c != 9 || c == 127)
def digit (c : UInt8) (base : Int) : Int :=
  let n : Int := if 48 ≤ c ∧ c ≤ 57 then (c.toNat : Int) - 48 else if 97 ≤ (c ||| 32) ∧ (c ||| 32) ≤ 102 then ((c ||| 32).toNat : Int) - 97 + 10 else -1
  if base ≤ n then -1 else n
def numGo (base : Int) : Str → Int → Option Int
  | [], x => some x
  | c :: s, x => if digit c base < 0 then none else if 1073741824 < x * base + digit c base then none else numGo base s (x * base + digit c base)
def number (s : Str) (base : Int) : Int × Bool := match numGo base s 0 with
  | some x => (x, !s.isEmpty)
  | none => (0, false)
def wordsGo (b : UInt8) (cur : Str) : Str → List Str
  | [] => [cur]
  | c :: s => if c = b then cur :: wordsGo b [] s else wordsGo b (cur ++ [c]) s
def words (s : Str) (b : UInt8) : List Str := wordsGo b [] s

/- script -/
def encAct (a : ActM) : Str :=
  let k := a.kind % 16
  [UInt8.ofNat (k + a.conn % 16 * 16).toNat, UInt8.ofNat (a.n % 256).toNat] ++
    (if k = 1 then UInt8.ofNat (a.data.take 255).length :: a.data.take 255 else [])
def encode : List ActM → Str
  | [] => []
  | a :: l => encAct a ++ encode l
def decAct (x : UInt8) (b : Str) : ActM × Str :=
  let kd : Int := (x.toNat : Int) % 16
  let cn : Int := (x.toNat : Int) / 16
  let n : Int := ((b.headD 0).toNat : Int)
  if kd = 1 then
    let m := min (b.tail.headD 0).toNat b.tail.tail.length
    (⟨kd, cn, n, b.tail.tail.take m⟩, b.tail.tail.drop m)
  else (⟨kd, cn, n, []⟩, b.tail)
def decode : Nat → Str → List ActM
  | 0, _ => []
  | _ + 1, [] => []
  | k + 1, x :: b => (decAct x b).1 :: decode k (decAct x b).2
theorem decAct_le (x : UInt8) (b : Str) : (decAct x b).2.length ≤ b.length := by
  unfold decAct
  dsimp only
  split
  · simp only [List.length_drop, List.length_tail]; omega
  · simp only [List.length_tail]; omega
theorem decode_more : ∀ (k m : Nat) (b : Str), b.length < k → b.length < m → decode k b = decode m b
  | 0, _, _, h, _ => by omega
  | _, 0, _, _, h => by omega
  | k + 1, m + 1, [], _, _ => rfl
  | k + 1, m + 1, x :: b, h1, h2 => by
    have := decAct_le x b
    simp only [List.length_cons] at h1 h2
    simp only [decode]
    rw [decode_more k m _ (by omega) (by omega)]
def decodeAll (b : Str) : List ActM := decode (b.length + 1) b
theorem decodeAll_nil : decodeAll [] = [] := rfl
theorem decodeAll_cons (x : UInt8) (b : Str) : decodeAll (x :: b) = (decAct x b).1 :: decodeAll (decAct x b).2 := by
  unfold decodeAll
  simp only [decode]
  have := decAct_le x b
  rw [decode_more _ ((decAct x b).2.length + 1) _ (by simp only [List.length_cons]; omega) (by omega)]

end Cr
end Go.Proofs.YthcbjeeajoliiaaGreatDoor
