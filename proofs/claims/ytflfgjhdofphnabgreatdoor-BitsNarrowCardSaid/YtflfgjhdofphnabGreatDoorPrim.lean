/- What Go's library functions that are met here compute, on lists of bytes. -/
import Derived.Test.YtflfgjhdofphnabGreatDoorEv4
namespace Go.Avm
open Go

def memU (x : UInt8) : List UInt8 → Bool
  | [] => false
  | y :: l => match Nat.beq x.toNat y.toNat with
    | true => true
    | false => memU x l
def trimL (cs : List UInt8) : List UInt8 → List UInt8
  | [] => []
  | x :: l => match memU x cs with
    | true => trimL cs l
    | false => x :: l
def trimB (s cs : List UInt8) : List UInt8 := trimL cs (trimL cs s.reverse).reverse
def isDig (x : UInt8) : Bool := Nat.ble 48 x.toNat && Nat.ble x.toNat 57
def allDig : List UInt8 → Bool
  | [] => true
  | x :: l => match isDig x with
    | true => allDig l
    | false => false
def decVal : List UInt8 → Nat → Nat
  | [], n => n
  | x :: l, n => decVal l (n * 10 + (x.toNat - 48))
def decText : Nat → Nat → List UInt8 → List UInt8
  | 0, _, acc => acc
  | k + 1, n, acc => match Nat.blt n 10 with
    | true => UInt8.ofNat (48 + n) :: acc
    | false => decText k (n / 10) (UInt8.ofNat (48 + n % 10) :: acc)
def repB (s : List UInt8) : Nat → List UInt8
  | 0 => []
  | n + 1 => s ++ repB s n
def isPre : List UInt8 → List UInt8 → Bool
  | [], _ => true
  | _ :: _, [] => false
  | x :: p, y :: s => match Nat.beq x.toNat y.toNat with
    | true => isPre p s
    | false => false
def cutAt (sep : List UInt8) : List UInt8 → List UInt8 → Option (List UInt8 × List UInt8)
  | [], _ => none
  | x :: s, acc => match isPre sep (x :: s) with
    | true => some (acc.reverse, (x :: s).drop sep.length)
    | false => cutAt sep s (x :: acc)
def anyAt (cs : List UInt8) : List UInt8 → Nat → Option Nat
  | [], _ => none
  | x :: s, i => match memU x cs with
    | true => some i
    | false => anyAt cs s (i + 1)
def nilErr : AV := .raw .nilIface
end Go.Avm
