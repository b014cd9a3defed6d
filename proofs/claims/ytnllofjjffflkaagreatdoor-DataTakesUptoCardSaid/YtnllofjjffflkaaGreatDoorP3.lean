/- Plain law: what a putting together hands back: no program in sight. -/
import Derived.Test.YtnllofjjffflkaaGreatDoorP2
set_option linter.unusedSimpArgs false
set_option linter.unusedVariables false
namespace Gp
/-- What is handed back of what was put together: it, or an error's number. -/
def doneV (l : List UInt8) (bad : Bool) : ByteArray × Int := if bad = true ∨ 2000 < l.length then (⟨#[]⟩, 6) else (⟨l.toArray⟩, 0)
structure Soa where
  primary : ByteArray
  mail : ByteArray
  serial : Int
  refresh : Int
  retry : Int
  expire : Int
  minimum : Int
structure Sig where
  covered : Int
  alg : Int
  labels : Int
  ttl : Int
  fin : Int
  start : Int
  tag : Int
  signer : ByteArray
  sign : ByteArray
structure Key where
  flags : Int
  protocol : Int
  alg : Int
  pub : ByteArray
structure Ds where
  tag : Int
  alg : Int
  kind : Int
  digest : ByteArray
def keyL (x : Key) : List UInt8 := be x.flags 2 ++ be x.protocol 1 ++ be x.alg 1 ++ x.pub.data.toList
def keyBad (x : Key) : Bool := badNum x.flags 2 || badNum x.protocol 1 || badNum x.alg 1 || decide ((x.pub.size : Int) < 1)
def dsL (x : Ds) : List UInt8 := be x.tag 2 ++ be x.alg 1 ++ be x.kind 1 ++ x.digest.data.toList
def dsBad (x : Ds) : Bool := badNum x.tag 2 || badNum x.alg 1 || badNum x.kind 1 || decide ((x.digest.size : Int) < 1)
def soaL (x : Soa) : List UInt8 := x.primary.data.toList ++ x.mail.data.toList ++ be x.serial 4 ++ be x.refresh 4 ++ be x.retry 4 ++ be x.expire 4 ++ be x.minimum 4
def soaBad (x : Soa) : Bool := !rightB x.primary || !rightB x.mail || badNum x.serial 4 || badNum x.refresh 4 || badNum x.retry 4 || badNum x.expire 4 || badNum x.minimum 4
def sigL (x : Sig) : List UInt8 := be x.covered 2 ++ be x.alg 1 ++ be x.labels 1 ++ be x.ttl 4 ++ be x.fin 4 ++ be x.start 4 ++ be x.tag 2 ++ x.signer.data.toList ++ x.sign.data.toList
def sigBad (x : Sig) : Bool := badNum x.covered 2 || badNum x.alg 1 || badNum x.labels 1 || badNum x.ttl 4 || badNum x.fin 4 || badNum x.start 4 || badNum x.tag 2 || !rightB x.signer || decide ((x.sign.size : Int) < 1)
end Gp
