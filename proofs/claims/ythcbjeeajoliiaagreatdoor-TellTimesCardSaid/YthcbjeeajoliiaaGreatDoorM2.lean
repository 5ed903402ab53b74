/- The plain model of the program, second part: heads, bodies, the cutter, answers, paths, tables, the trie. -/
import Derived.Test.YthcbjeeajoliiaaGreatDoorM1
namespace Go.Proofs.YthcbjeeajoliiaaGreatDoor
namespace Cr

/- head -/
structure Hd where
  req : Req
  length : Int
  status : Int
deriving DecidableEq
def Hd.nil : Hd := ⟨Req.nil, 0, 0⟩
def badHd (st : Int) : Hd := ⟨Req.nil, 0, st⟩
def colon : Str → Option (Str × Str)
  | [] => none
  | c :: s => if c = 58 then some ([], s) else (colon s).map fun p => (c :: p.1, p.2)
def fieldOf (l : Str) : Fld × Bool := match colon l with
  | none => (⟨[], []⟩, false)
  | some (a, b) => (⟨lower a, trim b⟩, token a && value (trim b))
def allOf (l : List Fld) (name : Str) : List Str := (l.filter fun f => f.name == name).map (·.value)
def sHost : Str := [104, 111, 115, 116]
def sLength : Str := [99, 111, 110, 116, 101, 110, 116, 45, 108, 101, 110, 103, 116, 104]
def sCoding : Str := [116, 114, 97, 110, 115, 102, 101, 114, 45, 101, 110, 99, 111, 100, 105, 110, 103]
def sConnection : Str := [99, 111, 110, 110, 101, 99, 116, 105, 111, 110]
def sClose : Str := [99, 108, 111, 115, 101]
def sChunked : Str := [99, 104, 117, 110, 107, 101, 100]
def sHttp : Str := [72, 84, 84, 80, 47, 49, 46, 49]
def closes (fs : List Fld) : Bool := (allOf fs sConnection).any fun v => (words v 44).any fun w => lower (trim w) == sClose
def frame (r : Req) : Hd :=
  let hosts := allOf r.fields sHost
  let lengths := allOf r.fields sLength
  let codings := allOf r.fields sCoding
  if hosts.length ≠ 1 ∨ 1 < lengths.length ∨ (0 < lengths.length ∧ 0 < codings.length) then badHd 400
  else
    let h : Hd := ⟨{ r with close := r.close || closes r.fields }, 0, 0⟩
    match codings with
    | [c] => if lower c == sChunked then { h with length := -1 } else badHd 501
    | _ :: _ :: _ => badHd 501
    | [] => match lengths with
      | [v] => let n := number v 10; if n.2 then (if 600 < n.1 then badHd 413 else { h with length := n.1 }) else badHd 400
      | _ => h
def fieldsGo (acc : List Fld) : List Str → Option (List Fld)
  | [] => some acc
  | l :: ls => let f := fieldOf l; if f.2 then fieldsGo (acc ++ [f.1]) ls else none
def parseHd : List Str → Hd
  | [] => badHd 400
  | l0 :: ls =>
    if 200 < l0.length ∨ 16 < ls.length then badHd 431 else
    match words l0 32 with
    | [m, t, v] =>
      if token m && t.headD 0 == 47 && value t then
        if v == sHttp then match fieldsGo [] ls with
          | some fs => frame ⟨m, t, fs, [], false⟩
          | none => badHd 400
        else badHd 400
      else badHd 400
    | _ => badHd 400

/- body -/
structure BodyS where
  chunked : Bool
  left : Int
  state : Int
  line : Str
  data : Str
  status : Int
  done : Bool
deriving DecidableEq
def BodyS.new (length : Int) : BodyS := ⟨decide (length < 0), max length 0, 0, [], [], 0, decide (length = 0)⟩
def BodyS.fail (b : BodyS) (st : Int) : BodyS := { b with done := true, status := st }
def BodyS.take (b : BodyS) (c : UInt8) : BodyS := if b.data.length = 600 then b.fail 413 else { b with data := b.data ++ [c], left := b.left - 1 }
def BodyS.whole (b : BodyS) (line : Str) : BodyS :=
  if b.state = 0 then
    let n := number ((words line 59).headD []) 16
    if n.2 then (if n.1 = 0 then { b with state := 3 } else if 600 < n.1 then b.fail 413 else { b with state := 1, left := n.1 }) else b.fail 400
  else if b.state = 2 then { (if line = [] then b else b.fail 400) with state := 0 }
  else { b with done := line.isEmpty }
def BodyS.feed (b : BodyS) (c : UInt8) : BodyS :=
  if b.done then b
  else if !b.chunked then let b1 := b.take c; { b1 with done := b1.done || b1.left == 0 }
  else if b.state = 1 then let b1 := b.take c; if b1.left = 0 then { b1 with state := 2 } else b1
  else
    let ln := b.line ++ [c]
    let b1 := { b with line := ln }
    if 200 < ln.length then b1.fail 431
    else if c ≠ 10 then (if 1 < ln.length ∧ ln.getD (ln.length - 2) 0 = 13 then b1.fail 400 else b1)
    else if ln.length < 2 ∨ ln.getD (ln.length - 2) 0 ≠ 13 then b1.fail 400
    else { b1 with line := [] }.whole (ln.take (ln.length - 2))

/- cutter -/
structure CutS where
  wait : Str
  lines : List Str
  line : Str
  size : Int
  head : Hd
  body : Option BodyS
  status : Int
  done : Bool
deriving DecidableEq
def CutS.new : CutS := ⟨[], [], [], 0, Hd.nil, none, 0, false⟩
def CutS.feed (c : CutS) (s : Str) : CutS := if c.done then c else { c with wait := c.wait ++ s }
def CutS.fail (c : CutS) (st : Int) : CutS := { c with done := true, status := st, wait := [] }
def CutS.ends (c : CutS) (b : BodyS) : CutS × Option Req :=
  if b.status ≠ 0 then (c.fail b.status, none)
  else
    let r := { c.head.req with body := b.data }
    let c1 := { c with body := none, size := 0, lines := [] }
    (if r.close then c1.fail 0 else c1, some r)
def CutS.byte (c : CutS) (b : UInt8) : CutS :=
  let c1 := { c with size := c.size + 1 }
  if 1000 < c1.size then c1.fail 431
  else
    let ln := c1.line ++ [b]
    let c2 := { c1 with line := ln }
    let n := ln.length
    if b ≠ 10 ∧ 1 < n ∧ ln.getD (n - 2) 0 = 13 then c2.fail 400
    else if b ≠ 10 then c2
    else if n < 2 ∨ ln.getD (n - 2) 0 ≠ 13 then c2.fail 400
    else if n = 2 ∧ c.lines = [] then { c2 with line := [], size := 0 }
    else if n = 2 then
      let h := parseHd c.lines
      let c3 := { c2 with line := [], head := h }
      if h.status ≠ 0 then c3.fail h.status else { c3 with body := some (BodyS.new h.length) }
    else { c2 with lines := c.lines ++ [ln.take (n - 2)], line := [] }
def CutS.nextGo : Nat → CutS → CutS × Option Req
  | 0, c => (c, none)
  | k + 1, c =>
    if c.done then (c, none) else
    match c.body with
    | some b => if b.done then c.ends b else match c.wait with
      | [] => (c, none)
      | x :: w => CutS.nextGo k { c with wait := w, body := some (b.feed x) }
    | none => match c.wait with
      | [] => (c, none)
      | x :: w => CutS.nextGo k ({ c with wait := w }.byte x)
def CutS.next (c : CutS) : CutS × Option Req := CutS.nextGo (c.wait.length + 1) c
def allGo : Nat → CutS → List Req → CutS × List Req
  | 0, c, out => (c, out)
  | k + 1, c, out => match c.next with
    | (c1, some r) => allGo k c1 (out ++ [r])
    | (c1, none) => (c1, out)
def cutAll (s : Str) : List Req × Int :=
  let x := allGo (s.length + 1) (CutS.new.feed s) []
  (x.2, x.1.status)

/- answer -/
def statusWord (st : Int) : Str :=
  if st = 200 then [79, 75]
  else if st = 201 then [67, 114, 101, 97, 116, 101, 100]
  else if st = 400 then [66, 97, 100, 32, 82, 101, 113, 117, 101, 115, 116]
  else if st = 401 then [85, 110, 97, 117, 116, 104, 111, 114, 105, 122, 101, 100]
  else if st = 404 then [78, 111, 116, 32, 70, 111, 117, 110, 100]
  else if st = 405 then [77, 101, 116, 104, 111, 100, 32, 78, 111, 116, 32, 65, 108, 108, 111, 119, 101, 100]
  else if st = 409 then [67, 111, 110, 102, 108, 105, 99, 116]
  else if st = 412 then [80, 114, 101, 99, 111, 110, 100, 105, 116, 105, 111, 110, 32, 70, 97, 105, 108, 101, 100]
  else if st = 413 then [67, 111, 110, 116, 101, 110, 116, 32, 84, 111, 111, 32, 76, 97, 114, 103, 101]
  else if st = 431 then [82, 101, 113, 117, 101, 115, 116, 32, 72, 101, 97, 100, 101, 114, 32, 70, 105, 101, 108, 100, 115, 32, 84, 111, 111, 32, 76, 97, 114, 103, 101]
  else if st = 500 then [73, 110, 116, 101, 114, 110, 97, 108, 32, 83, 101, 114, 118, 101, 114, 32, 69, 114, 114, 111, 114]
  else if st = 501 then [78, 111, 116, 32, 73, 109, 112, 108, 101, 109, 101, 110, 116, 101, 100]
  else if st = 503 then [83, 101, 114, 118, 105, 99, 101, 32, 85, 110, 97, 118, 97, 105, 108, 97, 98, 108, 101]
  else if st = 507 then [73, 110, 115, 117, 102, 102, 105, 99, 105, 101, 110, 116, 32, 83, 116, 111, 114, 97, 103, 101]
  else [85, 110, 107, 110, 111, 119, 110]
def plainResp (st : Int) (closes : Bool) : Resp := ⟨st, [], statusWord st ++ [10], closes⟩

/- path -/
def turnGo : Nat → Str → Str → Option Str
  | 0, _, _ => none
  | _ + 1, out, [] => some out
  | k + 1, out, c :: s =>
    if c ≠ 37 then turnGo k (out ++ [c]) s
    else match s with
      | a :: b :: s' => let n := number [a, b] 16; if n.2 then turnGo k (out ++ [UInt8.ofNat n.1.toNat]) s' else none
      | _ => none
def turn (s : Str) : Option Str := turnGo (s.length + 1) [] s
def turnAll : List Str → Option (List Str)
  | [] => some []
  | s :: l => match turn s with
    | none => none
    | some t => (turnAll l).map (t :: ·)
def split (target : Str) : Option (List Str) :=
  match (words target 63).headD [] with
  | [] => none
  | c :: s => if c ≠ 47 then none else if s = [] then some [] else
    let l := words s 47
    if 8 < l.length then none else turnAll l
def kindOf (s : Str) : Nat := match s with
  | c :: _ => if c = 58 then 1 else if c = 42 then 2 else 0
  | [] => 0
def patternGo (last : Nat) : Nat → List Str → List Str → Bool
  | _, _, [] => true
  | i, names, x :: l =>
    if kindOf x = 0 then (if token x && (words x 37).headD [] == x then patternGo last (i + 1) names l else false)
    else if kindOf x = 2 ∧ i ≠ last then false
    else if token (x.drop 1) && !names.contains (x.drop 1) then patternGo last (i + 1) (x.drop 1 :: names) l else false
def pattern (s : Str) : List Str × Bool :=
  match s with
  | [] => ([], false)
  | c :: r => if c ≠ 47 then ([], false) else if r = [] then ([], true) else
    let l := words r 47
    if patternGo (l.length - 1) 0 [] l then (l, decide (l.length ≤ 8)) else ([], false)
def shape : List Str → Str
  | [] => []
  | x :: l => (if kindOf x = 0 then 47 :: x else if kindOf x = 1 then [47, 58] else [47, 42]) ++ shape l
def joinSlash : List Str → Str
  | [] => []
  | [x] => x
  | x :: l => x ++ 47 :: joinSlash l

/- table -/
def handlers : List Str := [[103, 101, 116], [112, 117, 116], [100, 101, 108, 101, 116, 101], [108, 105, 115, 116], [119, 97, 108, 107], [104, 101, 97, 108, 116, 104], [114, 101, 108, 111, 97, 100], [115, 104, 117, 116, 100, 111, 119, 110]]
def rightRoute (r : Rou) : Bool := (pattern r.pattern).2 && token r.method && handlers.contains r.handler
def clashGo : List (Str × Str) → List Rou → Bool
  | _, [] => false
  | seen, r :: l => let k := (r.method, shape (pattern r.pattern).1); if seen.contains k then true else clashGo (k :: seen) l
def checkRoutes (l : List Rou) : Int :=
  if !l.all rightRoute then 1 else if 24 < l.length then 2 else if clashGo [] l then 3 else 0
def parseLines (out : List Rou) : List Str → Option (List Rou)
  | [] => some out
  | l :: ls => match (words l 32).filter (fun x => !x.isEmpty) with
    | [] => parseLines out ls
    | [m, p, h] => parseLines (out ++ [⟨m, p, h⟩]) ls
    | _ => none
def parseTable (s : Str) : List Rou × Int := match parseLines [] (words s 10) with
  | none => ([], 1)
  | some l => let e := checkRoutes l; if e ≠ 0 then ([], e) else (l, 0)

/- trie -/
inductive Node where
  | mk (edges : List (Str × Node)) (next param rest : Option Node) (ends : List Rou)
def Node.edges : Node → List (Str × Node) | .mk e _ _ _ _ => e
def Node.next : Node → Option Node | .mk _ n _ _ _ => n
def Node.param : Node → Option Node | .mk _ _ p _ _ => p
def Node.rest : Node → Option Node | .mk _ _ _ r _ => r
def Node.ends : Node → List Rou | .mk _ _ _ _ e => e
def Node.empty : Node := .mk [] none none none []
def common : Str → Str → Nat
  | a :: x, b :: y => if a = b then common x y + 1 else 0
  | _, _ => 0
def wordGo (then_ : Option Node → Node) : Nat → Node → Str → Node
  | 0, n, _ => n
  | k + 1, .mk es nx p r e, s =>
    if s = [] then .mk es (some (then_ nx)) p r e
    else match es.findIdx? (fun x => common x.1 s ≠ 0) with
      | none => .mk (es ++ [(s, .mk [] (some (then_ none)) none none [])]) nx p r e
      | some i => match es[i]? with
        | none => .mk es nx p r e
        | some (t, to) =>
          let c := common t s
          if c = t.length then .mk (es.set i (t, wordGo then_ k to (s.drop c))) nx p r e
          else .mk (es.set i (t.take c, wordGo then_ k (.mk [(t.drop c, to)] none none none []) (s.drop c))) nx p r e
def putGo (r : Rou) : List Str → Option Node → Node
  | [], n => match n.getD .empty with | .mk es nx p rs e => .mk es nx p rs (e ++ [r])
  | x :: l, n =>
    if kindOf x = 0 then wordGo (putGo r l) (x.length + 1) (n.getD .empty) x
    else match n.getD .empty with
      | .mk es nx p rs e => if kindOf x = 1 then .mk es nx (some (putGo r l p)) rs e
        else .mk es nx p (some (match rs.getD .empty with | .mk es' nx' p' rs' e' => .mk es' nx' p' rs' (e' ++ [r]))) e
def withRoutes : Option Node → List Rou → Option Node
  | n, [] => n
  | n, r :: l => withRoutes (some (putGo r (pattern r.pattern).1 n)) l

end Cr
end Go.Proofs.YthcbjeeajoliiaaGreatDoor
